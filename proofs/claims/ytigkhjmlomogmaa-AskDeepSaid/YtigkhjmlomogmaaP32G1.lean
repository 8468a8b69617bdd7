/- The functions, as the evaluator sees them: printed by a program. -/
import Derived.Test.YtigkhjmlomogmaaVa4
import Derived.Test.YtigkhjmlomogmaaProg
set_option linter.all false

open Go Go.Ve Go.Proofs
namespace Go.Proofs.Ytigkhjmlomogmaa
set_option maxRecDepth 100000

/-! ### warrantor/warrantorlaw32.AskParts: function 3 -/
noncomputable def warrantorlaw32_AskParts.A : FAnn := { nv := 9, mv := [(7, 0), (7, 3), (7, 8), (9, 1), (9, 5), (9, 10), (9, 14), (9, 17), (9, 21), (9, 24)], ld := [], lst := [], q := [], raw := [] }
noncomputable def warrantorlaw32_AskParts.an : Ann := .nil
noncomputable abbrev warrantorlaw32_AskParts.c : Code := Try.f3.body.getD .skip
noncomputable def warrantorlaw32_AskParts.J (call : Cl) (n : Nat) : Jn (AEnd × H) := realJ Try.prog warrantorlaw32_AskParts.A call Try.f3 warrantorlaw32_AskParts.an warrantorlaw32_AskParts.c n
abbrev warrantorlaw32_AskParts.F (call : Cl) (n : Nat) (J : Jn (AEnd × H)) : Prop := JFix Try.prog warrantorlaw32_AskParts.A call Try.f3 warrantorlaw32_AskParts.an warrantorlaw32_AskParts.c n J
def warrantorlaw32_AskParts.f (J : Jn (AEnd × H)) (x0 : AV) (h : H) : Option (AEnd × H) := J [] [] ⟨[(0, x0)], [], [], h⟩
theorem warrantorlaw32_AskParts.f_eq {call : Cl} {n : Nat} {J : Jn (AEnd × H)} (hJ : warrantorlaw32_AskParts.F call n J) (x0 : AV) (h : H) : warrantorlaw32_AskParts.f J x0 h =
  (call 6 [AV.canon x0] h).bind fun p1 => retOr p1.1 (fun r2p => some (AEnd.pan r2p, p1.2)) fun r2 =>
  condV r2 (
    (call 7 [] p1.2).bind fun p3 => retOr p3.1 (fun r4p => some (AEnd.pan r4p, p3.2)) fun r4 =>
    some (AEnd.ret r4, p3.2)) (
    (call 8 [AV.canon x0] p1.2).bind fun p5 => retOr p5.1 (fun r6p => some (AEnd.pan r6p, p5.2)) fun r6 =>
    (exTuple 0 r6).bind fun v7 =>
    (exTuple 1 r6).bind fun v8 =>
    (exTuple 2 r6).bind fun v9 =>
    (call 7 [] p5.2).bind fun p10 => retOr p10.1 (fun r11p => some (AEnd.pan r11p, p10.2)) fun r11 =>
    (unOp .not r11).bind fun v12 =>
    condV v12 (
      some (AEnd.ret (.bool false), p10.2)) (
      (call 9 [AV.canon x0] p10.2).bind fun p13 => retOr p13.1 (fun r14p => some (AEnd.pan r14p, p13.2)) fun r14 =>
      (bin .neq r14 (.int .i64 0)).bind fun v15 =>
      condV v15 (
        (unOp .not v9).bind fun v16 =>
        condV v16 (
          (lnSl v7).bind fun v17 =>
          (bin .eql v17 (.int .i64 0)).bind fun v18 =>
          condV v18 (
            (lnSl v8).bind fun v19 =>
            (bin .eql v19 (.int .i64 0)).bind fun v20 =>
            some (AEnd.ret (AV.copy v20), p13.2)) (
            some (AEnd.ret (AV.copy (.bool false)), p13.2))) (
          some (AEnd.ret (AV.copy (.bool false)), p13.2))) (
        (call 10 [AV.canon x0] p13.2).bind fun p21 => retOr p21.1 (fun r22p => some (AEnd.pan r22p, p21.2)) fun r22 =>
        (exTuple 0 r22).bind fun v23 =>
        (exTuple 1 r22).bind fun v24 =>
        (exTuple 2 r22).bind fun v25 =>
        (binBool .eql v9 v25).bind fun v26 =>
        condV v26 (
          (call 11 [AV.canon v7, AV.canon v23] p21.2).bind fun p27 => retOr p27.1 (fun r28p => some (AEnd.pan r28p, p27.2)) fun r28 =>
          condV r28 (
            (call 11 [AV.canon v8, AV.canon v24] p27.2).bind fun p29 => retOr p29.1 (fun r30p => some (AEnd.pan r30p, p29.2)) fun r30 =>
            condV r30 (
              (unOp .not v9).bind fun v31 =>
              condV v31 (
                some (AEnd.ret (AV.copy (.bool true)), p29.2)) (
                (call 12 [AV.canon v7] p29.2).bind fun p32 => retOr p32.1 (fun r33p => some (AEnd.pan r33p, p32.2)) fun r33 =>
                (bin .eql r33 (.int .i64 0)).bind fun v34 =>
                condV v34 (
                  (lnSl v8).bind fun v35 =>
                  (bin .eql v35 (.int .i64 0)).bind fun v36 =>
                  (ixSlice 5 x0 (.int .i64 0)).bind fun v37 =>
                  (fAddr 0 v37).bind fun v38 =>
                  (ldCell p32.2 v38).bind fun v39 =>
                  (bin .eql v39 (.int .i64 3)).bind fun v40 =>
                  (binBool .eql v36 v40).bind fun v41 =>
                  some (AEnd.ret (AV.copy v41), p32.2)) (
                  some (AEnd.ret (AV.copy (.bool false)), p32.2)))) (
              some (AEnd.ret (AV.copy (.bool false)), p29.2))) (
            some (AEnd.ret (AV.copy (.bool false)), p27.2))) (
          some (AEnd.ret (AV.copy (.bool false)), p21.2))))) := (hJ _ _ _ (by kernel_rfl)).trans (by kernel_rfl)
/-! ### warrantor/warrantorlaw32.AskNots: function 4 -/
noncomputable def warrantorlaw32_AskNots.A : FAnn := { nv := 11, mv := [(5, 3), (7, 0), (8, 0), (13, 0), (17, 0), (17, 4), (19, 0), (20, 0), (20, 4), (21, 0), (22, 0), (22, 3), (22, 4)], ld := [], lst := [], q := [], raw := [] }
noncomputable def warrantorlaw32_AskNots.an : Ann := .mk none .nil (.mk none .nil (.mk none .nil (.mk none .nil (.mk none (.mk none .nil (.mk (some [(0, 0), (3, 1), (5, 255), (27, 0)]) .nil .nil)) (.mk (some [(0, 0), (3, 1), (5, 255)]) .nil (.mk none .nil (.mk none (.mk none .nil (.mk none (.mk none (.mk (some [(0, 0), (3, 1), (6, 0)]) .nil (.mk none (.mk none (.mk none .nil (.mk (some [(0, 0), (3, 1), (6, 0), (68, 0)]) .nil .nil)) .nil) .nil)) .nil) .nil)) (.mk none .nil (.mk none .nil (.mk none (.mk none .nil (.mk (some [(3, 1), (7, 1), (91, 0)]) .nil .nil)) (.mk (some [(3, 1), (7, 1)]) .nil .nil)))))))))))
noncomputable abbrev warrantorlaw32_AskNots.c : Code := Try.f4.body.getD .skip
noncomputable def warrantorlaw32_AskNots.J (call : Cl) (n : Nat) : Jn (AEnd × H) := realJ Try.prog warrantorlaw32_AskNots.A call Try.f4 warrantorlaw32_AskNots.an warrantorlaw32_AskNots.c n
abbrev warrantorlaw32_AskNots.F (call : Cl) (n : Nat) (J : Jn (AEnd × H)) : Prop := JFix Try.prog warrantorlaw32_AskNots.A call Try.f4 warrantorlaw32_AskNots.an warrantorlaw32_AskNots.c n J
def warrantorlaw32_AskNots.f (J : Jn (AEnd × H)) (x0 : AV) (h : H) : Option (AEnd × H) := J [] [] ⟨[(0, x0)], [], [], h⟩
def warrantorlaw32_AskNots.j1 (J : Jn (AEnd × H)) (x0 x3 x5 x27 : AV) (h : H) : Option (AEnd × H) := J [1, 1, 1, 1, 0, 1] [] ⟨[(0, x0), (3, x3), (5, x5), (27, x27)], [(0, 0), (3, 1), (5, 255), (27, 0)], [], h⟩
def warrantorlaw32_AskNots.j0 (J : Jn (AEnd × H)) (x0 x3 x5 : AV) (h : H) : Option (AEnd × H) := J [1, 1, 1, 1, 1] [] ⟨[(0, x0), (3, x3), (5, x5)], [(0, 0), (3, 1), (5, 255)], [], h⟩
def warrantorlaw32_AskNots.l0 (J : Jn (AEnd × H)) (m0 : Nat) (x0 x3 x6 : AV) (h : H) : Option (AEnd × H) := J [1, 1, 1, 1, 1, 1, 1, 0, 1, 0] [m0] ⟨[(0, x0), (3, x3), (6, x6)], [(0, 0), (3, 1), (6, 0)], [], h⟩
def warrantorlaw32_AskNots.j2 (J : Jn (AEnd × H)) (m0 : Nat) (x0 x3 x6 x68 : AV) (h : H) : Option (AEnd × H) := J [1, 1, 1, 1, 1, 1, 1, 0, 1, 0, 0, 1, 0, 0, 1] [m0] ⟨[(0, x0), (3, x3), (6, x6), (68, x68)], [(0, 0), (3, 1), (6, 0), (68, 0)], [], h⟩
def warrantorlaw32_AskNots.j4 (J : Jn (AEnd × H)) (x3 x7 x91 : AV) (h : H) : Option (AEnd × H) := J [1, 1, 1, 1, 1, 1, 1, 1, 1, 1, 0, 1] [] ⟨[(3, x3), (7, x7), (91, x91)], [(3, 1), (7, 1), (91, 0)], [], h⟩
def warrantorlaw32_AskNots.j3 (J : Jn (AEnd × H)) (x3 x7 : AV) (h : H) : Option (AEnd × H) := J [1, 1, 1, 1, 1, 1, 1, 1, 1, 1, 1] [] ⟨[(3, x3), (7, x7)], [(3, 1), (7, 1)], [], h⟩
theorem warrantorlaw32_AskNots.f_eq {call : Cl} {n : Nat} {J : Jn (AEnd × H)} (hJ : warrantorlaw32_AskNots.F call n J) (x0 : AV) (h : H) : warrantorlaw32_AskNots.f J x0 h =
  (call 6 [AV.canon x0] h).bind fun p1 => retOr p1.1 (fun r2p => some (AEnd.pan r2p, p1.2)) fun r2 =>
  condV r2 (
    (call 7 [] p1.2).bind fun p3 => retOr p3.1 (fun r4p => some (AEnd.pan r4p, p3.2)) fun r4 =>
    some (AEnd.ret r4, p3.2)) (
    (call 13 [AV.canon x0] p1.2).bind fun p5 => retOr p5.1 (fun r6p => some (AEnd.pan r6p, p5.2)) fun r6 =>
    (exTuple 0 r6).bind fun v7 =>
    (exTuple 1 r6).bind fun v8 =>
    (call 9 [AV.canon x0] p5.2).bind fun p9 => retOr p9.1 (fun r10p => some (AEnd.pan r10p, p9.2)) fun r10 =>
    (call 7 [] p9.2).bind fun p11 => retOr p11.1 (fun r12p => some (AEnd.pan r12p, p11.2)) fun r12 =>
    (unOp .not r12).bind fun v13 =>
    condV v13 (
      warrantorlaw32_AskNots.j1 J  x0 v7 r10 (.bool true) p11.2) (
      (bin .neq v8 r10).bind fun v14 =>
      warrantorlaw32_AskNots.j1 J  x0 v7 r10 v14 p11.2)) := (hJ _ _ _ (by kernel_rfl)).trans (by kernel_rfl)
theorem warrantorlaw32_AskNots.j1_eq {call : Cl} {n : Nat} {J : Jn (AEnd × H)} (hJ : warrantorlaw32_AskNots.F call n J) (x0 x3 x5 x27 : AV) (h : H) : warrantorlaw32_AskNots.j1 J  x0 x3 x5 x27 h =
  condV x27 (
    some (AEnd.ret (.bool false), h)) (
    warrantorlaw32_AskNots.j0 J  x0 x3 x5 h) := (hJ _ _ _ (by kernel_rfl)).trans (by kernel_rfl)
theorem warrantorlaw32_AskNots.j0_eq {call : Cl} {n : Nat} {J : Jn (AEnd × H)} (hJ : warrantorlaw32_AskNots.F call n J) (x0 x3 x5 : AV) (h : H) : warrantorlaw32_AskNots.j0 J  x0 x3 x5 h =
  (bin .neq x5 (.int .i64 0)).bind fun v15 =>
  condV v15 (
    (lnSl x3).bind fun v16 =>
    (bin .eql v16 (.int .i64 0)).bind fun v17 =>
    some (AEnd.ret (AV.copy v17), h)) (
    (call 14 [AV.canon x0, AV.canon (.bool true)] h).bind fun p18 => retOr p18.1 (fun r19p => some (AEnd.pan r19p, p18.2)) fun r19 =>
    (call 11 [AV.canon x3, AV.canon r19] p18.2).bind fun p20 => retOr p20.1 (fun r21p => some (AEnd.pan r21p, p20.2)) fun r21 =>
    (unOp .not r21).bind fun v22 =>
    condV v22 (
      some (AEnd.ret (.bool false), p20.2)) (
      warrantorlaw32_AskNots.l0 J n x0 x3 (.int .i64 0) p20.2)) := (hJ _ _ _ (by kernel_rfl)).trans (by kernel_rfl)
theorem warrantorlaw32_AskNots.l0_eq {call : Cl} {n : Nat} {J : Jn (AEnd × H)} (hJ : warrantorlaw32_AskNots.F call n J) (m0 : Nat) (x0 x3 x6 : AV) (h : H) : warrantorlaw32_AskNots.l0 J (m0 + 1) x0 x3 x6 h =
  (bin .add x6 (.int .i64 1)).bind fun v23 =>
  (lnSl x3).bind fun v24 =>
  (bin .lss v23 v24).bind fun v25 =>
  condV v25 (
    (ixSlice 5 x3 x6).bind fun v26 =>
    (fAddr 0 v26).bind fun v27 =>
    (ldCell h v27).bind fun v28 =>
    (bin .eql v28 (.int .i64 3)).bind fun v29 =>
    condV v29 (
      (bin .add x6 (.int .i64 1)).bind fun v30 =>
      (ixSlice 5 x3 v30).bind fun v31 =>
      (fAddr 0 v31).bind fun v32 =>
      (ldCell h v32).bind fun v33 =>
      (bin .neq v33 (.int .i64 2)).bind fun v34 =>
      condV v34 (
        (bin .add x6 (.int .i64 1)).bind fun v35 =>
        (ixSlice 5 x3 v35).bind fun v36 =>
        (fAddr 0 v36).bind fun v37 =>
        (ldCell h v37).bind fun v38 =>
        (bin .neq v38 (.int .i64 1)).bind fun v39 =>
        warrantorlaw32_AskNots.j2 J m0 x0 x3 x6 v39 h) (
        warrantorlaw32_AskNots.j2 J m0 x0 x3 x6 (.bool false) h)) (
      warrantorlaw32_AskNots.j2 J m0 x0 x3 x6 (.bool false) h)) (
    (call 12 [AV.canon x3] h).bind fun p40 => retOr p40.1 (fun r41p => some (AEnd.pan r41p, p40.2)) fun r41 =>
    (bin .neq r41 (.int .i64 0)).bind fun v42 =>
    condV v42 (
      (lnSl x3).bind fun v43 =>
      (bin .gtr v43 (.int .i64 128)).bind fun v44 =>
      condV v44 (
        some (AEnd.ret (AV.copy (.bool true)), p40.2)) (
        (call 15 [AV.canon x0] p40.2).bind fun p45 => retOr p45.1 (fun r46p => some (AEnd.pan r46p, p45.2)) fun r46 =>
        (bin .eql r46 (.int .i64 32)).bind fun v47 =>
        some (AEnd.ret (AV.copy v47), p45.2))) (
      (call 13 [AV.canon x3] p40.2).bind fun p48 => retOr p48.1 (fun r49p => some (AEnd.pan r49p, p48.2)) fun r49 =>
      (exTuple 0 r49).bind fun v50 =>
      (exTuple 1 r49).bind fun v51 =>
      (bin .neq v51 (.int .i64 0)).bind fun v52 =>
      condV v52 (
        warrantorlaw32_AskNots.j4 J  x3 v50 (.bool true) p48.2) (
        (call 12 [AV.canon v50] p48.2).bind fun p53 => retOr p53.1 (fun r54p => some (AEnd.pan r54p, p53.2)) fun r54 =>
        (bin .neq r54 (.int .i64 0)).bind fun v55 =>
        warrantorlaw32_AskNots.j4 J  x3 v50 v55 p53.2))) := (hJ _ _ _ (by kernel_rfl)).trans (by kernel_rfl)
theorem warrantorlaw32_AskNots.j2_eq {call : Cl} {n : Nat} {J : Jn (AEnd × H)} (hJ : warrantorlaw32_AskNots.F call n J) (m0 : Nat) (x0 x3 x6 x68 : AV) (h : H) : warrantorlaw32_AskNots.j2 J m0 x0 x3 x6 x68 h =
  condV x68 (
    some (AEnd.ret (.bool false), h)) (
    (bin .add x6 (.int .i64 1)).bind fun v56 =>
    warrantorlaw32_AskNots.l0 J m0 x0 x3 v56 h) := (hJ _ _ _ (by kernel_rfl)).trans (by kernel_rfl)
theorem warrantorlaw32_AskNots.j4_eq {call : Cl} {n : Nat} {J : Jn (AEnd × H)} (hJ : warrantorlaw32_AskNots.F call n J) (x3 x7 x91 : AV) (h : H) : warrantorlaw32_AskNots.j4 J  x3 x7 x91 h =
  condV x91 (
    (lnSl x7).bind fun v57 =>
    (bin .gtr v57 (.int .i64 128)).bind fun v58 =>
    condV v58 (
      some (AEnd.ret (AV.copy (.bool true)), h)) (
      (call 15 [AV.canon x3] h).bind fun p59 => retOr p59.1 (fun r60p => some (AEnd.pan r60p, p59.2)) fun r60 =>
      (bin .geq r60 (.int .i64 31)).bind fun v61 =>
      some (AEnd.ret (AV.copy v61), p59.2))) (
    warrantorlaw32_AskNots.j3 J  x3 x7 h) := (hJ _ _ _ (by kernel_rfl)).trans (by kernel_rfl)
theorem warrantorlaw32_AskNots.j3_eq {call : Cl} {n : Nat} {J : Jn (AEnd × H)} (hJ : warrantorlaw32_AskNots.F call n J) (x3 x7 : AV) (h : H) : warrantorlaw32_AskNots.j3 J  x3 x7 h =
  (call 13 [AV.canon x7] h).bind fun p62 => retOr p62.1 (fun r63p => some (AEnd.pan r63p, p62.2)) fun r63 =>
  (exTuple 0 r63).bind fun v64 =>
  (exTuple 1 r63).bind fun v65 =>
  (bin .eql v65 (.int .i64 0)).bind fun v66 =>
  condV v66 (
    (call 11 [AV.canon v64, AV.canon x3] p62.2).bind fun p67 => retOr p67.1 (fun r68p => some (AEnd.pan r68p, p67.2)) fun r68 =>
    some (AEnd.ret (AV.copy r68), p67.2)) (
    some (AEnd.ret (AV.copy (.bool false)), p62.2)) := (hJ _ _ _ (by kernel_rfl)).trans (by kernel_rfl)
/-! ### warrantor/warrantorlaw32.AskDeep: function 5 -/
noncomputable def warrantorlaw32_AskDeep.A : FAnn := { nv := 8, mv := [(7, 0), (8, 0), (9, 0), (10, 0), (11, 0), (13, 0), (16, 2), (16, 4), (16, 8), (16, 10)], ld := [], lst := [], q := [], raw := [] }
noncomputable def warrantorlaw32_AskDeep.an : Ann := .mk none .nil (.mk none (.mk none .nil (.mk (some [(0, 0), (13, 0)]) .nil .nil)) (.mk (some [(0, 0)]) .nil (.mk none .nil (.mk none (.mk none .nil (.mk none (.mk none (.mk (some [(0, 0), (3, 255), (4, 255), (5, 0)]) .nil .nil) .nil) .nil)) (.mk none .nil (.mk none .nil (.mk none .nil (.mk none .nil (.mk (some [(3, 255), (4, 255), (6, 255), (7, 255)]) .nil .nil)))))))))
noncomputable abbrev warrantorlaw32_AskDeep.c : Code := Try.f5.body.getD .skip
noncomputable def warrantorlaw32_AskDeep.J (call : Cl) (n : Nat) : Jn (AEnd × H) := realJ Try.prog warrantorlaw32_AskDeep.A call Try.f5 warrantorlaw32_AskDeep.an warrantorlaw32_AskDeep.c n
abbrev warrantorlaw32_AskDeep.F (call : Cl) (n : Nat) (J : Jn (AEnd × H)) : Prop := JFix Try.prog warrantorlaw32_AskDeep.A call Try.f5 warrantorlaw32_AskDeep.an warrantorlaw32_AskDeep.c n J
def warrantorlaw32_AskDeep.f (J : Jn (AEnd × H)) (x0 : AV) (h : H) : Option (AEnd × H) := J [] [] ⟨[(0, x0)], [], [], h⟩
def warrantorlaw32_AskDeep.j1 (J : Jn (AEnd × H)) (x0 x13 : AV) (h : H) : Option (AEnd × H) := J [1, 0, 1] [] ⟨[(0, x0), (13, x13)], [(0, 0), (13, 0)], [], h⟩
def warrantorlaw32_AskDeep.j0 (J : Jn (AEnd × H)) (x0 : AV) (h : H) : Option (AEnd × H) := J [1, 1] [] ⟨[(0, x0)], [(0, 0)], [], h⟩
def warrantorlaw32_AskDeep.l0 (J : Jn (AEnd × H)) (m0 : Nat) (x0 x3 x4 x5 : AV) (h : H) : Option (AEnd × H) := J [1, 1, 1, 1, 0, 1, 0] [m0] ⟨[(0, x0), (3, x3), (4, x4), (5, x5)], [(0, 0), (3, 255), (4, 255), (5, 0)], [], h⟩
def warrantorlaw32_AskDeep.j2 (J : Jn (AEnd × H)) (x3 x4 x6 x7 : AV) (h : H) : Option (AEnd × H) := J [1, 1, 1, 1, 1, 1, 1, 1, 1] [] ⟨[(3, x3), (4, x4), (6, x6), (7, x7)], [(3, 255), (4, 255), (6, 255), (7, 255)], [], h⟩
theorem warrantorlaw32_AskDeep.f_eq {call : Cl} {n : Nat} {J : Jn (AEnd × H)} (hJ : warrantorlaw32_AskDeep.F call n J) (x0 : AV) (h : H) : warrantorlaw32_AskDeep.f J x0 h =
  (bin .lss x0 (.int .i64 0)).bind fun v1 =>
  condV v1 (
    warrantorlaw32_AskDeep.j1 J  x0 (.bool true) h) (
    (bin .gtr x0 (.int .i64 150)).bind fun v2 =>
    warrantorlaw32_AskDeep.j1 J  x0 v2 h) := (hJ _ _ _ (by kernel_rfl)).trans (by kernel_rfl)
theorem warrantorlaw32_AskDeep.j1_eq {call : Cl} {n : Nat} {J : Jn (AEnd × H)} (hJ : warrantorlaw32_AskDeep.F call n J) (x0 x13 : AV) (h : H) : warrantorlaw32_AskDeep.j1 J  x0 x13 h =
  condV x13 (
    (call 7 [] h).bind fun p3 => retOr p3.1 (fun r4p => some (AEnd.pan r4p, p3.2)) fun r4 =>
    some (AEnd.ret r4, p3.2)) (
    warrantorlaw32_AskDeep.j0 J  x0 h) := (hJ _ _ _ (by kernel_rfl)).trans (by kernel_rfl)
theorem warrantorlaw32_AskDeep.j0_eq {call : Cl} {n : Nat} {J : Jn (AEnd × H)} (hJ : warrantorlaw32_AskDeep.F call n J) (x0 : AV) (h : H) : warrantorlaw32_AskDeep.j0 J  x0 h =
  warrantorlaw32_AskDeep.l0 J n x0 (.list [] .cap) (.list [] .cap) (.int .i64 0) h := (hJ _ _ _ (by kernel_rfl)).trans (by kernel_rfl)
theorem warrantorlaw32_AskDeep.l0_eq {call : Cl} {n : Nat} {J : Jn (AEnd × H)} (hJ : warrantorlaw32_AskDeep.F call n J) (m0 : Nat) (x0 x3 x4 x5 : AV) (h : H) : warrantorlaw32_AskDeep.l0 J (m0 + 1) x0 x3 x4 x5 h =
  (bin .lss x5 x0).bind fun v5 =>
  condV v5 (
    (mkAgg [.int .i64 0, .int .i64 0, .int .i64 0, .int .i64 0, .str []] [(0, 1, AV.copy (.int .i64 3))]).bind fun v6 =>
    (mkRows 5 [.int .i64 0, .int .i64 0, .int .i64 0, .int .i64 0, .str []] 1 [(0, v6)]).bind fun v7 =>
    (apSlice 5 48 false true h x3 v7).bind fun v8 =>
    (mkAgg [.int .i64 0, .int .i64 0, .int .i64 0, .int .i64 0, .str []] [(0, 1, AV.copy (.int .i64 5))]).bind fun v9 =>
    (mkAgg [.int .i64 0, .int .i64 0, .int .i64 0, .int .i64 0, .str []] [(0, 1, AV.copy (.int .i64 1))]).bind fun v10 =>
    (mkRows 5 [.int .i64 0, .int .i64 0, .int .i64 0, .int .i64 0, .str []] 2 [(0, v9), (1, v10)]).bind fun v11 =>
    (apSlice 5 48 false true h x4 v11).bind fun v12 =>
    (bin .add x5 (.int .i64 1)).bind fun v13 =>
    warrantorlaw32_AskDeep.l0 J m0 x0 v8 v12 v13 h) (
    (mkAgg [.int .i64 0, .int .i64 0, .int .i64 0, .int .i64 0, .str []] [(0, 1, AV.copy (.int .i64 1))]).bind fun v14 =>
    (mkRows 5 [.int .i64 0, .int .i64 0, .int .i64 0, .int .i64 0, .str []] 1 [(0, v14)]).bind fun v15 =>
    (apSlice 5 48 false true h x3 v15).bind fun v16 =>
    (mkAgg [.int .i64 0, .int .i64 0, .int .i64 0, .int .i64 0, .str []] [(0, 1, AV.copy (.int .i64 1))]).bind fun v17 =>
    (mkRows 5 [.int .i64 0, .int .i64 0, .int .i64 0, .int .i64 0, .str []] 1 [(0, v17)]).bind fun v18 =>
    (apSlice 5 48 false true h x4 v18).bind fun v19 =>
    (bin .add x0 (.int .i64 1)).bind fun v20 =>
    (bin .gtr v20 (.int .i64 32)).bind fun v21 =>
    condV v21 (
      warrantorlaw32_AskDeep.j2 J  v16 v19 (.int .i64 3) (.int .i64 3) h) (
      warrantorlaw32_AskDeep.j2 J  v16 v19 (.int .i64 0) (.int .i64 0) h)) := (hJ _ _ _ (by kernel_rfl)).trans (by kernel_rfl)
theorem warrantorlaw32_AskDeep.j2_eq {call : Cl} {n : Nat} {J : Jn (AEnd × H)} (hJ : warrantorlaw32_AskDeep.F call n J) (x3 x4 x6 x7 : AV) (h : H) : warrantorlaw32_AskDeep.j2 J  x3 x4 x6 x7 h =
  (call 7 [] h).bind fun p22 => retOr p22.1 (fun r23p => some (AEnd.pan r23p, p22.2)) fun r23 =>
  condV r23 (
    (call 12 [AV.canon x3] p22.2).bind fun p24 => retOr p24.1 (fun r25p => some (AEnd.pan r25p, p24.2)) fun r25 =>
    (bin .eql r25 x6).bind fun v26 =>
    condV v26 (
      (call 12 [AV.canon x4] p24.2).bind fun p27 => retOr p27.1 (fun r28p => some (AEnd.pan r28p, p27.2)) fun r28 =>
      (bin .eql r28 x7).bind fun v29 =>
      some (AEnd.ret (AV.copy v29), p27.2)) (
      some (AEnd.ret (AV.copy (.bool false)), p24.2))) (
    some (AEnd.ret (AV.copy (.bool false)), p22.2)) := (hJ _ _ _ (by kernel_rfl)).trans (by kernel_rfl)
/-! ### warrantor/warrantorref32.Large: function 6 -/
noncomputable def warrantorref32_Large.A : FAnn := { nv := 4, mv := [(5, 0)], ld := [], lst := [], q := [], raw := [] }
noncomputable def warrantorref32_Large.an : Ann := .mk none .nil (.mk none .nil (.mk none (.mk none .nil (.mk none (.mk none (.mk (some [(0, 0), (3, 0)]) .nil .nil) .nil) .nil)) .nil))
noncomputable abbrev warrantorref32_Large.c : Code := Try.f6.body.getD .skip
noncomputable def warrantorref32_Large.J (call : Cl) (n : Nat) : Jn (AEnd × H) := realJ Try.prog warrantorref32_Large.A call Try.f6 warrantorref32_Large.an warrantorref32_Large.c n
abbrev warrantorref32_Large.F (call : Cl) (n : Nat) (J : Jn (AEnd × H)) : Prop := JFix Try.prog warrantorref32_Large.A call Try.f6 warrantorref32_Large.an warrantorref32_Large.c n J
def warrantorref32_Large.f (J : Jn (AEnd × H)) (x0 : AV) (h : H) : Option (AEnd × H) := J [] [] ⟨[(0, x0)], [], [], h⟩
def warrantorref32_Large.l0 (J : Jn (AEnd × H)) (m0 : Nat) (x0 x3 : AV) (h : H) : Option (AEnd × H) := J [1, 1, 0, 1, 0] [m0] ⟨[(0, x0), (3, x3)], [(0, 0), (3, 0)], [], h⟩
theorem warrantorref32_Large.f_eq {call : Cl} {n : Nat} {J : Jn (AEnd × H)} (hJ : warrantorref32_Large.F call n J) (x0 : AV) (h : H) : warrantorref32_Large.f J x0 h =
  (lnSl x0).bind fun v1 =>
  (bin .gtr v1 (.int .i64 200)).bind fun v2 =>
  condV v2 (
    some (AEnd.ret (.bool true), h)) (
    warrantorref32_Large.l0 J n x0 (.int .i64 0) h) := (hJ _ _ _ (by kernel_rfl)).trans (by kernel_rfl)
theorem warrantorref32_Large.l0_eq {call : Cl} {n : Nat} {J : Jn (AEnd × H)} (hJ : warrantorref32_Large.F call n J) (m0 : Nat) (x0 x3 : AV) (h : H) : warrantorref32_Large.l0 J (m0 + 1) x0 x3 h =
  (lnSl x0).bind fun v3 =>
  (bin .lss x3 v3).bind fun v4 =>
  condV v4 (
    (ixSlice 5 x0 x3).bind fun v5 =>
    (fAddr 4 v5).bind fun v6 =>
    (ldCell h v6).bind fun v7 =>
    (lnStr v7).bind fun v8 =>
    (bin .gtr v8 (.int .i64 300)).bind fun v9 =>
    condV v9 (
      some (AEnd.ret (.bool true), h)) (
      (bin .add x3 (.int .i64 1)).bind fun v10 =>
      warrantorref32_Large.l0 J m0 x0 v10 h)) (
    some (AEnd.ret (.bool false), h)) := (hJ _ _ _ (by kernel_rfl)).trans (by kernel_rfl)
/-! ### warrantor/warrantorlaw32.lives: function 7 -/
noncomputable def warrantorlaw32_lives.A : FAnn := { nv := 10, mv := [(8, 9), (8, 12), (8, 18), (8, 23), (8, 27), (8, 36)], ld := [], lst := [], q := [11, 12, 15, 16, 17, 18], raw := [] }
noncomputable def warrantorlaw32_lives.an : Ann := .nil
noncomputable abbrev warrantorlaw32_lives.c : Code := Try.f7.body.getD .skip
noncomputable def warrantorlaw32_lives.J (call : Cl) (n : Nat) : Jn (AEnd × H) := realJ Try.prog warrantorlaw32_lives.A call Try.f7 warrantorlaw32_lives.an warrantorlaw32_lives.c n
abbrev warrantorlaw32_lives.F (call : Cl) (n : Nat) (J : Jn (AEnd × H)) : Prop := JFix Try.prog warrantorlaw32_lives.A call Try.f7 warrantorlaw32_lives.an warrantorlaw32_lives.c n J
def warrantorlaw32_lives.f (J : Jn (AEnd × H)) (h : H) : Option (AEnd × H) := J [] [] ⟨[], [], [], h⟩
theorem warrantorlaw32_lives.f_eq {call : Cl} {n : Nat} {J : Jn (AEnd × H)} (hJ : warrantorlaw32_lives.F call n J) (h : H) : warrantorlaw32_lives.f J  h =
  (mkAgg [.int .i64 0, .int .i64 0, .int .i64 0, .int .i64 0, .str []] [(0, 1, AV.copy (.int .i64 2)), (1, 1, AV.copy (.int .i64 4)), (2, 1, AV.copy (.int .i64 5)), (3, 1, AV.copy (.int .i64 3))]).bind fun v1 =>
  let h2 : H := h ++ [.arr [.int .i64 0, .int .i64 0, .int .i64 0, .int .i64 0, .str []] false]
  (stN 5 h2 (.ptr h.length 0) v1).bind fun p3 =>
  (mkAgg [.int .i64 0, .int .i64 0, .int .i64 0, .int .i64 0, .str []] [(0, 1, AV.copy (.int .i64 4))]).bind fun v4 =>
  (ldAgg 5 p3.2 (.ptr h.length 0)).bind fun v5 =>
  (mkAgg [.int .i64 0, .int .i64 0, .int .i64 0, .int .i64 0, .str []] [(0, 1, AV.copy (.int .i64 3))]).bind fun v6 =>
  (mkAgg [.int .i64 0, .int .i64 0, .int .i64 0, .int .i64 0, .str []] [(0, 1, AV.copy (.int .i64 1))]).bind fun v7 =>
  (mkRows 5 [.int .i64 0, .int .i64 0, .int .i64 0, .int .i64 0, .str []] 4 [(0, v4), (1, v5), (2, v6), (3, v7)]).bind fun v8 =>
  (call 8 [AV.canon v8] p3.2).bind fun p9 => retOr p9.1 (fun r10p => some (AEnd.pan r10p, p9.2)) fun r10 =>
  (exTuple 0 r10).bind fun v11 =>
  (exTuple 1 r10).bind fun v12 =>
  (exTuple 2 r10).bind fun v13 =>
  (call 13 [AV.canon v8] p9.2).bind fun p14 => retOr p14.1 (fun r15p => some (AEnd.pan r15p, p14.2)) fun r15 =>
  (exTuple 0 r15).bind fun v16 =>
  (exTuple 1 r15).bind fun v17 =>
  (call 16 [] p14.2).bind fun p18 => retOr p18.1 (fun r19p => some (AEnd.pan r19p, p18.2)) fun r19 =>
  let h20 : H := p18.2 ++ [.arr [.list [] .cap, .int .i64 0, .int .i64 0, .int .i64 0, .int .i64 0] false]
  (stN 5 h20 (.ptr p18.2.length 0) r19).bind fun p21 =>
  (ldAgg 5 p21.2 (.ptr p18.2.length 0)).bind fun v22 =>
  let h23 : H := p21.2 ++ [.arr [.list [] .cap, .int .i64 0, .int .i64 0, .int .i64 0, .int .i64 0] false]
  (stN 5 h23 (.ptr p21.2.length 0) (AV.copy v22)).bind fun p24 =>
  (fAddr 4 (.ptr p21.2.length 0)).bind fun v25 =>
  (stN 1 p24.2 v25 (.int .i64 0)).bind fun p26 =>
  (call 12 [AV.canon v8] p26.2).bind fun p27 => retOr p27.1 (fun _ => none) fun r28 =>
  (bin .eql r28 (.int .i64 0)).bind fun v29 =>
  condV v29 (
    (call 15 [AV.canon v8] p27.2).bind fun p30 => retOr p30.1 (fun _ => none) fun r31 =>
    (bin .eql r31 (.int .i64 3)).bind fun v32 =>
    condV v32 (
      condV v13 (
        (ldAgg 5 p30.2 (.ptr h.length 0)).bind fun v33 =>
        (mkRows 5 [.int .i64 0, .int .i64 0, .int .i64 0, .int .i64 0, .str []] 1 [(0, v33)]).bind fun v34 =>
        (call 11 [AV.canon v11, AV.canon v34] p30.2).bind fun p35 => retOr p35.1 (fun _ => none) fun r36 =>
        condV r36 (
          (lnSl v12).bind fun v37 =>
          (bin .eql v37 (.int .i64 2)).bind fun v38 =>
          condV v38 (
            (bin .eql v17 (.int .i64 0)).bind fun v39 =>
            condV v39 (
              (mkAgg [.int .i64 0, .int .i64 0, .int .i64 0, .int .i64 0, .str []] [(0, 1, AV.copy (.int .i64 5))]).bind fun v40 =>
              (mkAgg [.int .i64 0, .int .i64 0, .int .i64 0, .int .i64 0, .str []] [(0, 1, AV.copy (.int .i64 3))]).bind fun v41 =>
              (ldAgg 5 p35.2 (.ptr h.length 0)).bind fun v42 =>
              (mkAgg [.int .i64 0, .int .i64 0, .int .i64 0, .int .i64 0, .str []] [(0, 1, AV.copy (.int .i64 1))]).bind fun v43 =>
              (mkRows 5 [.int .i64 0, .int .i64 0, .int .i64 0, .int .i64 0, .str []] 4 [(0, v40), (1, v41), (2, v42), (3, v43)]).bind fun v44 =>
              (call 11 [AV.canon v16, AV.canon v44] p35.2).bind fun p45 => retOr p45.1 (fun _ => none) fun r46 =>
              condV r46 (
                (slSlice 5 v8 none (some (.int .i64 2)) none).bind fun v47 =>
                (call 12 [AV.canon v47] p45.2).bind fun p48 => retOr p48.1 (fun _ => none) fun r49 =>
                (bin .eql r49 (.int .i64 320)).bind fun v50 =>
                condV v50 (
                  (ldAgg 5 p48.2 (.ptr p18.2.length 0)).bind fun v51 =>
                  (call 17 [AV.canon v51] p48.2).bind fun p52 => retOr p52.1 (fun _ => none) fun r53 =>
                  (bin .eql r53 (.int .i64 0)).bind fun v54 =>
                  condV v54 (
                    (ldAgg 5 p52.2 (.ptr p21.2.length 0)).bind fun v55 =>
                    (call 17 [AV.canon v55] p52.2).bind fun p56 => retOr p56.1 (fun _ => none) fun r57 =>
                    (bin .eql r57 (.int .i64 320)).bind fun v58 =>
                    condV v58 (
                      (fAddr 4 (.ptr p18.2.length 0)).bind fun v59 =>
                      (ldCell p56.2 v59).bind fun v60 =>
                      (bin .eql v60 (.int .i64 100)).bind fun v61 =>
                      condV v61 (
                        (ldAgg 5 p56.2 (.ptr p18.2.length 0)).bind fun v62 =>
                        (call 16 [] p56.2).bind fun p63 => retOr p63.1 (fun _ => none) fun r64 =>
                        (call 18 [AV.canon v62, AV.canon r64] p63.2).bind fun p65 => retOr p65.1 (fun _ => none) fun r66 =>
                        some (AEnd.ret (AV.copy r66), p65.2)) (
                        some (AEnd.ret (AV.copy (.bool false)), p56.2))) (
                      some (AEnd.ret (AV.copy (.bool false)), p56.2))) (
                    some (AEnd.ret (AV.copy (.bool false)), p52.2))) (
                  some (AEnd.ret (AV.copy (.bool false)), p48.2))) (
                some (AEnd.ret (AV.copy (.bool false)), p45.2))) (
              some (AEnd.ret (AV.copy (.bool false)), p35.2))) (
            some (AEnd.ret (AV.copy (.bool false)), p35.2))) (
          some (AEnd.ret (AV.copy (.bool false)), p35.2))) (
        some (AEnd.ret (AV.copy (.bool false)), p30.2))) (
      some (AEnd.ret (AV.copy (.bool false)), p30.2))) (
    some (AEnd.ret (AV.copy (.bool false)), p27.2)) := (hJ _ _ _ (by kernel_rfl)).trans (by kernel_rfl)
/-! ### warrantor/ask.Parts: function 8 -/
noncomputable def ask_Parts.A : FAnn := { nv := 7, mv := [(3, 0), (4, 0), (4, 2)], ld := [], lst := [], q := [], raw := [] }
noncomputable def ask_Parts.an : Ann := .mk none .nil (.mk none (.mk none .nil (.mk (some [(0, 0), (16, 0)]) .nil .nil)) (.mk (some [(0, 0)]) .nil .nil))
noncomputable abbrev ask_Parts.c : Code := Try.f8.body.getD .skip
noncomputable def ask_Parts.J (call : Cl) (n : Nat) : Jn (AEnd × H) := realJ Try.prog ask_Parts.A call Try.f8 ask_Parts.an ask_Parts.c n
abbrev ask_Parts.F (call : Cl) (n : Nat) (J : Jn (AEnd × H)) : Prop := JFix Try.prog ask_Parts.A call Try.f8 ask_Parts.an ask_Parts.c n J
def ask_Parts.f (J : Jn (AEnd × H)) (x0 : AV) (h : H) : Option (AEnd × H) := J [] [] ⟨[(0, x0)], [], [], h⟩
def ask_Parts.j1 (J : Jn (AEnd × H)) (x0 x16 : AV) (h : H) : Option (AEnd × H) := J [1, 0, 1] [] ⟨[(0, x0), (16, x16)], [(0, 0), (16, 0)], [], h⟩
def ask_Parts.j0 (J : Jn (AEnd × H)) (x0 : AV) (h : H) : Option (AEnd × H) := J [1, 1] [] ⟨[(0, x0)], [(0, 0)], [], h⟩
theorem ask_Parts.f_eq {call : Cl} {n : Nat} {J : Jn (AEnd × H)} (hJ : ask_Parts.F call n J) (x0 : AV) (h : H) : ask_Parts.f J x0 h =
  (call 12 [AV.canon x0] h).bind fun p1 => retOr p1.1 (fun r2p => some (AEnd.pan r2p, p1.2)) fun r2 =>
  (bin .neq r2 (.int .i64 0)).bind fun v3 =>
  condV v3 (
    ask_Parts.j1 J  x0 (.bool true) p1.2) (
    (ixSlice 5 x0 (.int .i64 0)).bind fun v4 =>
    (ldAgg 5 p1.2 v4).bind fun v5 =>
    (call 19 [AV.canon v5] p1.2).bind fun p6 => retOr p6.1 (fun r7p => some (AEnd.pan r7p, p6.2)) fun r7 =>
    (bin .eql r7 (.int .i64 0)).bind fun v8 =>
    ask_Parts.j1 J  x0 v8 p6.2) := (hJ _ _ _ (by kernel_rfl)).trans (by kernel_rfl)
theorem ask_Parts.j1_eq {call : Cl} {n : Nat} {J : Jn (AEnd × H)} (hJ : ask_Parts.F call n J) (x0 x16 : AV) (h : H) : ask_Parts.j1 J  x0 x16 h =
  condV x16 (
    some (AEnd.ret (.tuple [(.list [] .cap), (.list [] .cap), (.bool false)]), h)) (
    ask_Parts.j0 J  x0 h) := (hJ _ _ _ (by kernel_rfl)).trans (by kernel_rfl)
theorem ask_Parts.j0_eq {call : Cl} {n : Nat} {J : Jn (AEnd × H)} (hJ : ask_Parts.F call n J) (x0 : AV) (h : H) : ask_Parts.j0 J  x0 h =
  (call 20 [AV.canon x0] h).bind fun p9 => retOr p9.1 (fun r10p => some (AEnd.pan r10p, p9.2)) fun r10 =>
  (exTuple 0 r10).bind fun v11 =>
  (exTuple 1 r10).bind fun v12 =>
  (call 21 [AV.canon v11] p9.2).bind fun p13 => retOr p13.1 (fun r14p => some (AEnd.pan r14p, p13.2)) fun r14 =>
  (call 21 [AV.canon v12] p13.2).bind fun p15 => retOr p15.1 (fun r16p => some (AEnd.pan r16p, p15.2)) fun r16 =>
  some (AEnd.ret (.tuple [r14, r16, (.bool true)]), p15.2) := (hJ _ _ _ (by kernel_rfl)).trans (by kernel_rfl)
/-! ### warrantor/warrantorref32.Filter: function 9 -/
noncomputable def warrantorref32_Filter.A : FAnn := { nv := 5, mv := [(4, 3), (4, 4), (6, 0)], ld := [], lst := [], q := [], raw := [] }
noncomputable def warrantorref32_Filter.an : Ann := .mk none .nil (.mk none .nil (.mk none .nil (.mk none (.mk none (.mk none .nil (.mk (some [(4, 1), (13, 0)]) .nil .nil)) .nil) .nil)))
noncomputable abbrev warrantorref32_Filter.c : Code := Try.f9.body.getD .skip
noncomputable def warrantorref32_Filter.J (call : Cl) (n : Nat) : Jn (AEnd × H) := realJ Try.prog warrantorref32_Filter.A call Try.f9 warrantorref32_Filter.an warrantorref32_Filter.c n
abbrev warrantorref32_Filter.F (call : Cl) (n : Nat) (J : Jn (AEnd × H)) : Prop := JFix Try.prog warrantorref32_Filter.A call Try.f9 warrantorref32_Filter.an warrantorref32_Filter.c n J
def warrantorref32_Filter.f (J : Jn (AEnd × H)) (x0 : AV) (h : H) : Option (AEnd × H) := J [] [] ⟨[(0, x0)], [], [], h⟩
def warrantorref32_Filter.j0 (J : Jn (AEnd × H)) (x4 x13 : AV) (h : H) : Option (AEnd × H) := J [1, 1, 1, 0, 0, 1] [] ⟨[(4, x4), (13, x13)], [(4, 1), (13, 0)], [], h⟩
theorem warrantorref32_Filter.f_eq {call : Cl} {n : Nat} {J : Jn (AEnd × H)} (hJ : warrantorref32_Filter.F call n J) (x0 : AV) (h : H) : warrantorref32_Filter.f J x0 h =
  (lnSl x0).bind fun v1 =>
  (bin .gtr v1 (.int .i64 128)).bind fun v2 =>
  condV v2 (
    some (AEnd.ret (.int .i64 3), h)) (
    (call 22 [AV.canon x0] h).bind fun p3 => retOr p3.1 (fun r4p => some (AEnd.pan r4p, p3.2)) fun r4 =>
    (exTuple 0 r4).bind fun v5 =>
    (exTuple 1 r4).bind fun v6 =>
    (bin .eql v5 (.int .i64 0)).bind fun v7 =>
    condV v7 (
      warrantorref32_Filter.j0 J  v6 (.bool true) p3.2) (
      (lnSl x0).bind fun v8 =>
      (bin .lss v5 v8).bind fun v9 =>
      warrantorref32_Filter.j0 J  v6 v9 p3.2)) := (hJ _ _ _ (by kernel_rfl)).trans (by kernel_rfl)
theorem warrantorref32_Filter.j0_eq {call : Cl} {n : Nat} {J : Jn (AEnd × H)} (hJ : warrantorref32_Filter.F call n J) (x4 x13 : AV) (h : H) : warrantorref32_Filter.j0 J  x4 x13 h =
  condV x13 (
    some (AEnd.ret (.int .i64 320), h)) (
    (bin .gtr x4 (.int .i64 32)).bind fun v10 =>
    condV v10 (
      some (AEnd.ret (.int .i64 3), h)) (
      some (AEnd.ret (.int .i64 0), h))) := (hJ _ _ _ (by kernel_rfl)).trans (by kernel_rfl)
/-! ### warrantor/warrantorref32.Parts: function 10 -/
noncomputable def warrantorref32_Parts.A : FAnn := { nv := 7, mv := [(4, 4), (4, 5)], ld := [], lst := [], q := [], raw := [] }
noncomputable def warrantorref32_Parts.an : Ann := .nil
noncomputable abbrev warrantorref32_Parts.c : Code := Try.f10.body.getD .skip
noncomputable def warrantorref32_Parts.J (call : Cl) (n : Nat) : Jn (AEnd × H) := realJ Try.prog warrantorref32_Parts.A call Try.f10 warrantorref32_Parts.an warrantorref32_Parts.c n
abbrev warrantorref32_Parts.F (call : Cl) (n : Nat) (J : Jn (AEnd × H)) : Prop := JFix Try.prog warrantorref32_Parts.A call Try.f10 warrantorref32_Parts.an warrantorref32_Parts.c n J
def warrantorref32_Parts.f (J : Jn (AEnd × H)) (x0 : AV) (h : H) : Option (AEnd × H) := J [] [] ⟨[(0, x0)], [], [], h⟩
theorem warrantorref32_Parts.f_eq {call : Cl} {n : Nat} {J : Jn (AEnd × H)} (hJ : warrantorref32_Parts.F call n J) (x0 : AV) (h : H) : warrantorref32_Parts.f J x0 h =
  (ixSlice 5 x0 (.int .i64 0)).bind fun v1 =>
  (fAddr 0 v1).bind fun v2 =>
  (ldCell h v2).bind fun v3 =>
  (bin .lss v3 (.int .i64 3)).bind fun v4 =>
  condV v4 (
    some (AEnd.ret (.tuple [(.list [] .cap), (.list [] .cap), (.bool false)]), h)) (
    (slSlice 5 x0 (some (.int .i64 1)) none none).bind fun v5 =>
    (call 22 [AV.canon v5] h).bind fun p6 => retOr p6.1 (fun r7p => some (AEnd.pan r7p, p6.2)) fun r7 =>
    (exTuple 0 r7).bind fun v8 =>
    (exTuple 1 r7).bind fun v9 =>
    (bin .add (.int .i64 1) v8).bind fun v10 =>
    (slSlice 5 x0 (some (.int .i64 1)) (some v10) none).bind fun v11 =>
    (bin .add (.int .i64 1) v8).bind fun v12 =>
    (slSlice 5 x0 (some v12) none none).bind fun v13 =>
    some (AEnd.ret (.tuple [(AV.copy v11), (AV.copy v13), (AV.copy (.bool true))]), p6.2)) := (hJ _ _ _ (by kernel_rfl)).trans (by kernel_rfl)
/-! ### warrantor/warrantorref32.SameTerms: function 11 -/
noncomputable def warrantorref32_SameTerms.A : FAnn := { nv := 6, mv := [(5, 0)], ld := [], lst := [], q := [], raw := [] }
noncomputable def warrantorref32_SameTerms.an : Ann := .mk none .nil (.mk none .nil (.mk none (.mk none .nil (.mk none (.mk none (.mk (some [(0, 0), (1, 0), (5, 0)]) .nil .nil) .nil) .nil)) .nil))
noncomputable abbrev warrantorref32_SameTerms.c : Code := Try.f11.body.getD .skip
noncomputable def warrantorref32_SameTerms.J (call : Cl) (n : Nat) : Jn (AEnd × H) := realJ Try.prog warrantorref32_SameTerms.A call Try.f11 warrantorref32_SameTerms.an warrantorref32_SameTerms.c n
abbrev warrantorref32_SameTerms.F (call : Cl) (n : Nat) (J : Jn (AEnd × H)) : Prop := JFix Try.prog warrantorref32_SameTerms.A call Try.f11 warrantorref32_SameTerms.an warrantorref32_SameTerms.c n J
def warrantorref32_SameTerms.f (J : Jn (AEnd × H)) (x0 x1 : AV) (h : H) : Option (AEnd × H) := J [] [] ⟨[(0, x0), (1, x1)], [], [], h⟩
def warrantorref32_SameTerms.l0 (J : Jn (AEnd × H)) (m0 : Nat) (x0 x1 x5 : AV) (h : H) : Option (AEnd × H) := J [1, 1, 0, 1, 0] [m0] ⟨[(0, x0), (1, x1), (5, x5)], [(0, 0), (1, 0), (5, 0)], [], h⟩
theorem warrantorref32_SameTerms.f_eq {call : Cl} {n : Nat} {J : Jn (AEnd × H)} (hJ : warrantorref32_SameTerms.F call n J) (x0 x1 : AV) (h : H) : warrantorref32_SameTerms.f J x0 x1 h =
  (lnSl x0).bind fun v1 =>
  (lnSl x1).bind fun v2 =>
  (bin .neq v1 v2).bind fun v3 =>
  condV v3 (
    some (AEnd.ret (.bool false), h)) (
    warrantorref32_SameTerms.l0 J n x0 x1 (.int .i64 0) h) := (hJ _ _ _ (by kernel_rfl)).trans (by kernel_rfl)
theorem warrantorref32_SameTerms.l0_eq {call : Cl} {n : Nat} {J : Jn (AEnd × H)} (hJ : warrantorref32_SameTerms.F call n J) (m0 : Nat) (x0 x1 x5 : AV) (h : H) : warrantorref32_SameTerms.l0 J (m0 + 1) x0 x1 x5 h =
  (lnSl x0).bind fun v4 =>
  (bin .lss x5 v4).bind fun v5 =>
  condV v5 (
    (ixSlice 5 x0 x5).bind fun v6 =>
    (ldAgg 5 h v6).bind fun v7 =>
    (ixSlice 5 x1 x5).bind fun v8 =>
    (ldAgg 5 h v8).bind fun v9 =>
    (eqv true (aeq Try.prog 20 31 v7 v9)).bind fun v10 =>
    condV v10 (
      some (AEnd.ret (.bool false), h)) (
      (bin .add x5 (.int .i64 1)).bind fun v11 =>
      warrantorref32_SameTerms.l0 J m0 x0 x1 v11 h)) (
    some (AEnd.ret (.bool true), h)) := (hJ _ _ _ (by kernel_rfl)).trans (by kernel_rfl)
/-! ### warrantor/ask.Filter: function 12 -/
noncomputable def ask_Filter.A : FAnn := { nv := 4, mv := [(3, 0), (6, 0)], ld := [], lst := [], q := [], raw := [] }
noncomputable def ask_Filter.an : Ann := .mk none .nil (.mk none .nil (.mk none .nil (.mk none (.mk none (.mk none .nil (.mk (some [(3, 0), (10, 0)]) .nil .nil)) .nil) .nil)))
noncomputable abbrev ask_Filter.c : Code := Try.f12.body.getD .skip
noncomputable def ask_Filter.J (call : Cl) (n : Nat) : Jn (AEnd × H) := realJ Try.prog ask_Filter.A call Try.f12 ask_Filter.an ask_Filter.c n
abbrev ask_Filter.F (call : Cl) (n : Nat) (J : Jn (AEnd × H)) : Prop := JFix Try.prog ask_Filter.A call Try.f12 ask_Filter.an ask_Filter.c n J
def ask_Filter.f (J : Jn (AEnd × H)) (x0 : AV) (h : H) : Option (AEnd × H) := J [] [] ⟨[(0, x0)], [], [], h⟩
def ask_Filter.j0 (J : Jn (AEnd × H)) (x3 x10 : AV) (h : H) : Option (AEnd × H) := J [1, 1, 1, 0, 0, 1] [] ⟨[(3, x3), (10, x10)], [(3, 0), (10, 0)], [], h⟩
theorem ask_Filter.f_eq {call : Cl} {n : Nat} {J : Jn (AEnd × H)} (hJ : ask_Filter.F call n J) (x0 : AV) (h : H) : ask_Filter.f J x0 h =
  (lnSl x0).bind fun v1 =>
  (bin .gtr v1 (.int .i64 128)).bind fun v2 =>
  condV v2 (
    some (AEnd.ret (.int .i64 3), h)) (
    (mkAgg [.list [] .cap, .int .i64 0] [(0, 1, AV.copy x0)]).bind fun v3 =>
    (bx h v3).bind fun p4 =>
    (call 23 [AV.canon p4.1, AV.canon (.int .i64 1)] p4.2).bind fun p5 => retOr p5.1 (fun r6p => some (AEnd.pan r6p, p5.2)) fun r6 =>
    (unOp .not r6).bind fun v7 =>
    condV v7 (
      ask_Filter.j0 J  p4.1 (.bool true) p5.2) (
      (nilOk p4.1).bind fun v8 =>
      (fAddr 0 v8).bind fun v9 =>
      (ldCell p5.2 v9).bind fun v10 =>
      (lnSl v10).bind fun v11 =>
      (bin .gtr v11 (.int .i64 0)).bind fun v12 =>
      ask_Filter.j0 J  p4.1 v12 p5.2)) := (hJ _ _ _ (by kernel_rfl)).trans (by kernel_rfl)
theorem ask_Filter.j0_eq {call : Cl} {n : Nat} {J : Jn (AEnd × H)} (hJ : ask_Filter.F call n J) (x3 x10 : AV) (h : H) : ask_Filter.j0 J  x3 x10 h =
  condV x10 (
    some (AEnd.ret (.int .i64 320), h)) (
    (nilOk x3).bind fun v13 =>
    (fAddr 1 v13).bind fun v14 =>
    (ldCell h v14).bind fun v15 =>
    (bin .gtr v15 (.int .i64 32)).bind fun v16 =>
    condV v16 (
      some (AEnd.ret (.int .i64 3), h)) (
      some (AEnd.ret (.int .i64 0), h))) := (hJ _ _ _ (by kernel_rfl)).trans (by kernel_rfl)
/-! ### warrantor/ask.Not: function 13 -/
noncomputable def ask_Not.A : FAnn := { nv := 5, mv := [(3, 0), (4, 0)], ld := [], lst := [], q := [], raw := [] }
noncomputable def ask_Not.an : Ann := .nil
noncomputable abbrev ask_Not.c : Code := Try.f13.body.getD .skip
noncomputable def ask_Not.J (call : Cl) (n : Nat) : Jn (AEnd × H) := realJ Try.prog ask_Not.A call Try.f13 ask_Not.an ask_Not.c n
abbrev ask_Not.F (call : Cl) (n : Nat) (J : Jn (AEnd × H)) : Prop := JFix Try.prog ask_Not.A call Try.f13 ask_Not.an ask_Not.c n J
def ask_Not.f (J : Jn (AEnd × H)) (x0 : AV) (h : H) : Option (AEnd × H) := J [] [] ⟨[(0, x0)], [], [], h⟩
theorem ask_Not.f_eq {call : Cl} {n : Nat} {J : Jn (AEnd × H)} (hJ : ask_Not.F call n J) (x0 : AV) (h : H) : ask_Not.f J x0 h =
  (call 12 [AV.canon x0] h).bind fun p1 => retOr p1.1 (fun r2p => some (AEnd.pan r2p, p1.2)) fun r2 =>
  (bin .neq r2 (.int .i64 0)).bind fun v3 =>
  condV v3 (
    some (AEnd.ret (.tuple [(.list [] .cap), r2]), p1.2)) (
    (call 24 [AV.canon x0, AV.canon (.bool true)] p1.2).bind fun p4 => retOr p4.1 (fun r5p => some (AEnd.pan r5p, p4.2)) fun r5 =>
    some (AEnd.ret (.tuple [r5, (.int .i64 0)]), p4.2)) := (hJ _ _ _ (by kernel_rfl)).trans (by kernel_rfl)
/-! ### warrantor/warrantorref32.Not: function 14 -/
noncomputable def warrantorref32_Not.A : FAnn := { nv := 9, mv := [(2, 0), (3, 0), (4, 2), (5, 1), (7, 0), (7, 1), (8, 0), (10, 0), (11, 0), (11, 3), (11, 7), (11, 8)], ld := [], lst := [], q := [], raw := [] }
noncomputable def warrantorref32_Not.an : Ann := .mk none .nil (.mk none .nil (.mk none .nil (.mk none .nil (.mk none .nil (.mk none .nil (.mk (some [(1, 0), (5, 1), (6, 1), (8, 0)]) .nil .nil))))))
noncomputable abbrev warrantorref32_Not.c : Code := Try.f14.body.getD .skip
noncomputable def warrantorref32_Not.J (call : Cl) (n : Nat) : Jn (AEnd × H) := realJ Try.prog warrantorref32_Not.A call Try.f14 warrantorref32_Not.an warrantorref32_Not.c n
abbrev warrantorref32_Not.F (call : Cl) (n : Nat) (J : Jn (AEnd × H)) : Prop := JFix Try.prog warrantorref32_Not.A call Try.f14 warrantorref32_Not.an warrantorref32_Not.c n J
def warrantorref32_Not.f (J : Jn (AEnd × H)) (x0 x1 : AV) (h : H) : Option (AEnd × H) := J [] [] ⟨[(0, x0), (1, x1)], [], [], h⟩
def warrantorref32_Not.j0 (J : Jn (AEnd × H)) (x1 x5 x6 x8 : AV) (h : H) : Option (AEnd × H) := J [1, 1, 1, 1, 1, 1] [] ⟨[(1, x1), (5, x5), (6, x6), (8, x8)], [(1, 0), (5, 1), (6, 1), (8, 0)], [], h⟩
theorem warrantorref32_Not.f_eq {call : Cl} {n : Nat} {J : Jn (AEnd × H)} (hJ : warrantorref32_Not.F call n J) (x0 x1 : AV) (h : H) : warrantorref32_Not.f J x0 x1 h =
  (call 10 [AV.canon x0] h).bind fun p1 => retOr p1.1 (fun r2p => some (AEnd.pan r2p, p1.2)) fun r2 =>
  (exTuple 0 r2).bind fun v3 =>
  (exTuple 1 r2).bind fun v4 =>
  (exTuple 2 r2).bind fun v5 =>
  (unOp .not v5).bind fun v6 =>
  condV v6 (
    condV x1 (
      (mkAgg [.int .i64 0, .int .i64 0, .int .i64 0, .int .i64 0, .str []] [(0, 1, AV.copy (.int .i64 3))]).bind fun v7 =>
      (mkRows 5 [.int .i64 0, .int .i64 0, .int .i64 0, .int .i64 0, .str []] 1 [(0, v7)]).bind fun v8 =>
      (apSlice 5 48 false false p1.2 v8 x0).bind fun v9 =>
      some (AEnd.ret v9, p1.2)) (
      (mkRows 5 [.int .i64 0, .int .i64 0, .int .i64 0, .int .i64 0, .str []] 0 []).bind fun v10 =>
      (apSlice 5 48 false false p1.2 v10 x0).bind fun v11 =>
      some (AEnd.ret v11, p1.2))) (
    (ixSlice 5 x0 (.int .i64 0)).bind fun v12 =>
    (fAddr 0 v12).bind fun v13 =>
    (ldCell p1.2 v13).bind fun v14 =>
    (bin .eql v14 (.int .i64 3)).bind fun v15 =>
    condV v15 (
      (unOp .not x1).bind fun v16 =>
      (call 14 [AV.canon v3, AV.canon v16] p1.2).bind fun p17 => retOr p17.1 (fun r18p => some (AEnd.pan r18p, p17.2)) fun r18 =>
      some (AEnd.ret r18, p17.2)) (
      (ixSlice 5 x0 (.int .i64 0)).bind fun v19 =>
      (fAddr 0 v19).bind fun v20 =>
      (ldCell p1.2 v20).bind fun v21 =>
      condV x1 (
        (bin .sub (.int .i64 9) v21).bind fun v22 =>
        warrantorref32_Not.j0 J  x1 v3 v4 v22 p1.2) (
        warrantorref32_Not.j0 J  x1 v3 v4 v21 p1.2))) := (hJ _ _ _ (by kernel_rfl)).trans (by kernel_rfl)
theorem warrantorref32_Not.j0_eq {call : Cl} {n : Nat} {J : Jn (AEnd × H)} (hJ : warrantorref32_Not.F call n J) (x1 x5 x6 x8 : AV) (h : H) : warrantorref32_Not.j0 J  x1 x5 x6 x8 h =
  (mkAgg [.int .i64 0, .int .i64 0, .int .i64 0, .int .i64 0, .str []] [(0, 1, AV.copy x8)]).bind fun v23 =>
  (mkRows 5 [.int .i64 0, .int .i64 0, .int .i64 0, .int .i64 0, .str []] 1 [(0, v23)]).bind fun v24 =>
  (call 14 [AV.canon x5, AV.canon x1] h).bind fun p25 => retOr p25.1 (fun r26p => some (AEnd.pan r26p, p25.2)) fun r26 =>
  (apSlice 5 48 false false p25.2 v24 r26).bind fun v27 =>
  (call 14 [AV.canon x6, AV.canon x1] p25.2).bind fun p28 => retOr p28.1 (fun r29p => some (AEnd.pan r29p, p28.2)) fun r29 =>
  (apSlice 5 48 false true p28.2 v27 r29).bind fun v30 =>
  some (AEnd.ret v30, p28.2) := (hJ _ _ _ (by kernel_rfl)).trans (by kernel_rfl)
/-! ### warrantor/ask.Nest: function 15 -/
noncomputable def ask_Nest.A : FAnn := { nv := 4, mv := [(3, 0), (5, 0)], ld := [], lst := [], q := [], raw := [] }
noncomputable def ask_Nest.an : Ann := .nil
noncomputable abbrev ask_Nest.c : Code := Try.f15.body.getD .skip
noncomputable def ask_Nest.J (call : Cl) (n : Nat) : Jn (AEnd × H) := realJ Try.prog ask_Nest.A call Try.f15 ask_Nest.an ask_Nest.c n
abbrev ask_Nest.F (call : Cl) (n : Nat) (J : Jn (AEnd × H)) : Prop := JFix Try.prog ask_Nest.A call Try.f15 ask_Nest.an ask_Nest.c n J
def ask_Nest.f (J : Jn (AEnd × H)) (x0 : AV) (h : H) : Option (AEnd × H) := J [] [] ⟨[(0, x0)], [], [], h⟩
theorem ask_Nest.f_eq {call : Cl} {n : Nat} {J : Jn (AEnd × H)} (hJ : ask_Nest.F call n J) (x0 : AV) (h : H) : ask_Nest.f J x0 h =
  (call 12 [AV.canon x0] h).bind fun p1 => retOr p1.1 (fun r2p => some (AEnd.pan r2p, p1.2)) fun r2 =>
  (bin .neq r2 (.int .i64 0)).bind fun v3 =>
  condV v3 (
    some (AEnd.ret (.int .i64 0), p1.2)) (
    (mkAgg [.list [] .cap, .int .i64 0] [(0, 1, AV.copy x0)]).bind fun v4 =>
    (bx p1.2 v4).bind fun p5 =>
    (call 23 [AV.canon p5.1, AV.canon (.int .i64 1)] p5.2).bind fun p6 => retOr p6.1 (fun r7p => some (AEnd.pan r7p, p6.2)) fun r7 =>
    (nilOk p5.1).bind fun v8 =>
    (fAddr 1 v8).bind fun v9 =>
    (ldCell p6.2 v9).bind fun v10 =>
    some (AEnd.ret (AV.copy v10), p6.2)) := (hJ _ _ _ (by kernel_rfl)).trans (by kernel_rfl)
/-! ### warrantor/ask.Plain: function 16 -/
noncomputable def ask_Plain.A : FAnn := { nv := 1, mv := [], ld := [], lst := [], q := [], raw := [] }
noncomputable def ask_Plain.an : Ann := .nil
noncomputable abbrev ask_Plain.c : Code := Try.f16.body.getD .skip
noncomputable def ask_Plain.J (call : Cl) (n : Nat) : Jn (AEnd × H) := realJ Try.prog ask_Plain.A call Try.f16 ask_Plain.an ask_Plain.c n
abbrev ask_Plain.F (call : Cl) (n : Nat) (J : Jn (AEnd × H)) : Prop := JFix Try.prog ask_Plain.A call Try.f16 ask_Plain.an ask_Plain.c n J
def ask_Plain.f (J : Jn (AEnd × H)) (h : H) : Option (AEnd × H) := J [] [] ⟨[], [], [], h⟩
theorem ask_Plain.f_eq {call : Cl} {n : Nat} {J : Jn (AEnd × H)} (hJ : ask_Plain.F call n J) (h : H) : ask_Plain.f J  h =
  let h1 : H := h ++ [.arr [.list [] .cap, .int .i64 0, .int .i64 0, .int .i64 0, .int .i64 0] false]
  (mkAgg [.int .i64 0, .int .i64 0, .int .i64 0, .int .i64 0, .str []] [(0, 1, AV.copy (.int .i64 1))]).bind fun v2 =>
  (mkRows 5 [.int .i64 0, .int .i64 0, .int .i64 0, .int .i64 0, .str []] 1 [(0, v2)]).bind fun v3 =>
  (mkAgg [.list [] .cap, .int .i64 0, .int .i64 0, .int .i64 0, .int .i64 0] [(0, 1, AV.copy v3), (1, 1, AV.copy (.int .i64 10)), (4, 1, AV.copy (.int .i64 100))]).bind fun v4 =>
  (stN 5 h1 (.ptr h.length 0) v4).bind fun p5 =>
  (resN [(ldAgg 5 p5.2 (.ptr h.length 0)).map AV.copy]).map fun v => (AEnd.ret v, p5.2) := (hJ _ _ _ (by kernel_rfl)).trans (by kernel_rfl)
/-! ### warrantor/ask.Check: function 17 -/
noncomputable def ask_Check.A : FAnn := { nv := 4, mv := [(3, 0)], ld := [], lst := [], q := [], raw := [] }
noncomputable def ask_Check.an : Ann := .mk none .nil (.mk none .nil (.mk none (.mk none .nil (.mk (some [(31, 0)]) .nil .nil)) .nil))
noncomputable abbrev ask_Check.c : Code := Try.f17.body.getD .skip
noncomputable def ask_Check.J (call : Cl) (n : Nat) : Jn (AEnd × H) := realJ Try.prog ask_Check.A call Try.f17 ask_Check.an ask_Check.c n
abbrev ask_Check.F (call : Cl) (n : Nat) (J : Jn (AEnd × H)) : Prop := JFix Try.prog ask_Check.A call Try.f17 ask_Check.an ask_Check.c n J
def ask_Check.f (J : Jn (AEnd × H)) (x0 : AV) (h : H) : Option (AEnd × H) := J [] [] ⟨[(0, x0)], [], [], h⟩
def ask_Check.j0 (J : Jn (AEnd × H)) (x31 : AV) (h : H) : Option (AEnd × H) := J [1, 1, 0, 1] [] ⟨[(31, x31)], [(31, 0)], [], h⟩
theorem ask_Check.f_eq {call : Cl} {n : Nat} {J : Jn (AEnd × H)} (hJ : ask_Check.F call n J) (x0 : AV) (h : H) : ask_Check.f J x0 h =
  (bx h (AV.copy x0)).bind fun p1 =>
  (fAddr 0 p1.1).bind fun v2 =>
  (ldCell p1.2 v2).bind fun v3 =>
  (call 12 [AV.canon v3] p1.2).bind fun p4 => retOr p4.1 (fun r5p => some (AEnd.pan r5p, p4.2)) fun r5 =>
  (bin .neq r5 (.int .i64 0)).bind fun v6 =>
  condV v6 (
    some (AEnd.ret r5, p4.2)) (
    (fAddr 1 p1.1).bind fun v7 =>
    (ldCell p4.2 v7).bind fun v8 =>
    (call 25 [AV.canon v8, AV.canon (.int .i64 1), AV.canon (.int .i64 10)] p4.2).bind fun p9 => retOr p9.1 (fun r10p => some (AEnd.pan r10p, p9.2)) fun r10 =>
    (unOp .not r10).bind fun v11 =>
    condV v11 (
      ask_Check.j0 J  (.bool true) p9.2) (
      (fAddr 2 p1.1).bind fun v12 =>
      (ldCell p9.2 v12).bind fun v13 =>
      (call 25 [AV.canon v13, AV.canon (.int .i64 0), AV.canon (.int .i64 1)] p9.2).bind fun p14 => retOr p14.1 (fun r15p => some (AEnd.pan r15p, p14.2)) fun r15 =>
      (unOp .not r15).bind fun v16 =>
      condV v16 (
        ask_Check.j0 J  (.bool true) p14.2) (
        (fAddr 3 p1.1).bind fun v17 =>
        (ldCell p14.2 v17).bind fun v18 =>
        (call 25 [AV.canon v18, AV.canon (.int .i64 0), AV.canon (.int .i64 1048576)] p14.2).bind fun p19 => retOr p19.1 (fun r20p => some (AEnd.pan r20p, p19.2)) fun r20 =>
        (unOp .not r20).bind fun v21 =>
        condV v21 (
          ask_Check.j0 J  (.bool true) p19.2) (
          (fAddr 4 p1.1).bind fun v22 =>
          (ldCell p19.2 v22).bind fun v23 =>
          (call 25 [AV.canon v23, AV.canon (.int .i64 1), AV.canon (.int .i64 100)] p19.2).bind fun p24 => retOr p24.1 (fun r25p => some (AEnd.pan r25p, p24.2)) fun r25 =>
          (unOp .not r25).bind fun v26 =>
          ask_Check.j0 J  v26 p24.2)))) := (hJ _ _ _ (by kernel_rfl)).trans (by kernel_rfl)
theorem ask_Check.j0_eq {call : Cl} {n : Nat} {J : Jn (AEnd × H)} (hJ : ask_Check.F call n J) (x31 : AV) (h : H) : ask_Check.j0 J  x31 h =
  condV x31 (
    some (AEnd.ret (.int .i64 320), h)) (
    some (AEnd.ret (.int .i64 0), h)) := (hJ _ _ _ (by kernel_rfl)).trans (by kernel_rfl)
/-! ### warrantor/ask.Same: function 18 -/
noncomputable def ask_Same.A : FAnn := { nv := 4, mv := [], ld := [], lst := [], q := [], raw := [] }
noncomputable def ask_Same.an : Ann := .nil
noncomputable abbrev ask_Same.c : Code := Try.f18.body.getD .skip
noncomputable def ask_Same.J (call : Cl) (n : Nat) : Jn (AEnd × H) := realJ Try.prog ask_Same.A call Try.f18 ask_Same.an ask_Same.c n
abbrev ask_Same.F (call : Cl) (n : Nat) (J : Jn (AEnd × H)) : Prop := JFix Try.prog ask_Same.A call Try.f18 ask_Same.an ask_Same.c n J
def ask_Same.f (J : Jn (AEnd × H)) (x0 x1 : AV) (h : H) : Option (AEnd × H) := J [] [] ⟨[(0, x0), (1, x1)], [], [], h⟩
theorem ask_Same.f_eq {call : Cl} {n : Nat} {J : Jn (AEnd × H)} (hJ : ask_Same.F call n J) (x0 x1 : AV) (h : H) : ask_Same.f J x0 x1 h =
  (bx h (AV.copy x0)).bind fun p1 =>
  (bx p1.2 (AV.copy x1)).bind fun p2 =>
  (fAddr 0 p1.1).bind fun v3 =>
  (ldCell p2.2 v3).bind fun v4 =>
  (fAddr 0 p2.1).bind fun v5 =>
  (ldCell p2.2 v5).bind fun v6 =>
  (call 26 [AV.canon v4, AV.canon v6] p2.2).bind fun p7 => retOr p7.1 (fun r8p => some (AEnd.pan r8p, p7.2)) fun r8 =>
  condV r8 (
    (fAddr 1 p1.1).bind fun v9 =>
    (ldCell p7.2 v9).bind fun v10 =>
    (fAddr 1 p2.1).bind fun v11 =>
    (ldCell p7.2 v11).bind fun v12 =>
    (bin .eql v10 v12).bind fun v13 =>
    condV v13 (
      (fAddr 2 p1.1).bind fun v14 =>
      (ldCell p7.2 v14).bind fun v15 =>
      (fAddr 2 p2.1).bind fun v16 =>
      (ldCell p7.2 v16).bind fun v17 =>
      (bin .eql v15 v17).bind fun v18 =>
      condV v18 (
        (fAddr 3 p1.1).bind fun v19 =>
        (ldCell p7.2 v19).bind fun v20 =>
        (fAddr 3 p2.1).bind fun v21 =>
        (ldCell p7.2 v21).bind fun v22 =>
        (bin .eql v20 v22).bind fun v23 =>
        condV v23 (
          (fAddr 4 p1.1).bind fun v24 =>
          (ldCell p7.2 v24).bind fun v25 =>
          (fAddr 4 p2.1).bind fun v26 =>
          (ldCell p7.2 v26).bind fun v27 =>
          (bin .eql v25 v27).bind fun v28 =>
          some (AEnd.ret (AV.copy v28), p7.2)) (
          some (AEnd.ret (AV.copy (.bool false)), p7.2))) (
        some (AEnd.ret (AV.copy (.bool false)), p7.2))) (
      some (AEnd.ret (AV.copy (.bool false)), p7.2))) (
    some (AEnd.ret (AV.copy (.bool false)), p7.2)) := (hJ _ _ _ (by kernel_rfl)).trans (by kernel_rfl)
/-! ### warrantor/ask.about: function 19 -/
noncomputable def ask_about.A : FAnn := { nv := 5, mv := [(6, 0), (8, 0)], ld := [], lst := [], q := [], raw := [] }
noncomputable def ask_about.an : Ann := .mk none .nil (.mk none .nil (.mk none .nil (.mk none (.mk none .nil (.mk (some [(3, 0), (26, 0)]) .nil .nil)) .nil)))
noncomputable abbrev ask_about.c : Code := Try.f19.body.getD .skip
noncomputable def ask_about.J (call : Cl) (n : Nat) : Jn (AEnd × H) := realJ Try.prog ask_about.A call Try.f19 ask_about.an ask_about.c n
abbrev ask_about.F (call : Cl) (n : Nat) (J : Jn (AEnd × H)) : Prop := JFix Try.prog ask_about.A call Try.f19 ask_about.an ask_about.c n J
def ask_about.f (J : Jn (AEnd × H)) (x0 : AV) (h : H) : Option (AEnd × H) := J [] [] ⟨[(0, x0)], [], [], h⟩
def ask_about.j0 (J : Jn (AEnd × H)) (x3 x26 : AV) (h : H) : Option (AEnd × H) := J [1, 1, 1, 0, 1] [] ⟨[(3, x3), (26, x26)], [(3, 0), (26, 0)], [], h⟩
theorem ask_about.f_eq {call : Cl} {n : Nat} {J : Jn (AEnd × H)} (hJ : ask_about.F call n J) (x0 : AV) (h : H) : ask_about.f J x0 h =
  (bx h (AV.copy x0)).bind fun p1 =>
  (fAddr 0 p1.1).bind fun v2 =>
  (ldCell p1.2 v2).bind fun v3 =>
  (bin .eql v3 (.int .i64 2)).bind fun v4 =>
  condV v4 (
    (ldAgg 5 p1.2 p1.1).bind fun v5 =>
    (call 27 [AV.canon v5] p1.2).bind fun p6 => retOr p6.1 (fun r7p => some (AEnd.pan r7p, p6.2)) fun r7 =>
    condV r7 (
      some (AEnd.ret (.int .i64 0), p6.2)) (
      some (AEnd.ret (.int .i64 (-1)), p6.2))) (
    let h8 : H := p1.2 ++ [.map []]
    (upMap .int h8 (.map p1.2.length) (.int .i64 1) (.int .i64 0)).bind fun p9 =>
    (upMap .int p9.2 (.map p1.2.length) (.int .i64 3) (.int .i64 1)).bind fun p10 =>
    (upMap .int p10.2 (.map p1.2.length) (.int .i64 4) (.int .i64 2)).bind fun p11 =>
    (upMap .int p11.2 (.map p1.2.length) (.int .i64 5) (.int .i64 2)).bind fun p12 =>
    (fAddr 0 p1.1).bind fun v13 =>
    (ldCell p12.2 v13).bind fun v14 =>
    (lkMap .int (.int .i64 0) p12.2 (.map p1.2.length) v14 true).bind fun v15 =>
    (exTuple 0 v15).bind fun v16 =>
    (exTuple 1 v15).bind fun v17 =>
    (unOp .not v17).bind fun v18 =>
    condV v18 (
      ask_about.j0 J  v16 (.bool true) p12.2) (
      (ldAgg 5 p12.2 p1.1).bind fun v19 =>
      (fAddr 0 p1.1).bind fun v20 =>
      (ldCell p12.2 v20).bind fun v21 =>
      (mkAgg [.int .i64 0, .int .i64 0, .int .i64 0, .int .i64 0, .str []] [(0, 1, AV.copy v21)]).bind fun v22 =>
      (eqv true (aeq Try.prog 20 31 v19 v22)).bind fun v23 =>
      ask_about.j0 J  v16 v23 p12.2)) := (hJ _ _ _ (by kernel_rfl)).trans (by kernel_rfl)
theorem ask_about.j0_eq {call : Cl} {n : Nat} {J : Jn (AEnd × H)} (hJ : ask_about.F call n J) (x3 x26 : AV) (h : H) : ask_about.j0 J  x3 x26 h =
  condV x26 (
    some (AEnd.ret (.int .i64 (-1)), h)) (
    some (AEnd.ret (AV.copy x3), h)) := (hJ _ _ _ (by kernel_rfl)).trans (by kernel_rfl)
/-! ### warrantor/ask.parts: function 20 -/
noncomputable def ask_parts.A : FAnn := { nv := 6, mv := [(3, 2), (4, 4), (4, 5)], ld := [], lst := [], q := [], raw := [] }
noncomputable def ask_parts.an : Ann := .nil
noncomputable abbrev ask_parts.c : Code := Try.f20.body.getD .skip
noncomputable def ask_parts.J (call : Cl) (n : Nat) : Jn (AEnd × H) := realJ Try.prog ask_parts.A call Try.f20 ask_parts.an ask_parts.c n
abbrev ask_parts.F (call : Cl) (n : Nat) (J : Jn (AEnd × H)) : Prop := JFix Try.prog ask_parts.A call Try.f20 ask_parts.an ask_parts.c n J
def ask_parts.f (J : Jn (AEnd × H)) (x0 : AV) (h : H) : Option (AEnd × H) := J [] [] ⟨[(0, x0)], [], [], h⟩
theorem ask_parts.f_eq {call : Cl} {n : Nat} {J : Jn (AEnd × H)} (hJ : ask_parts.F call n J) (x0 : AV) (h : H) : ask_parts.f J x0 h =
  (slSlice 5 x0 (some (.int .i64 1)) none none).bind fun v1 =>
  (mkAgg [.list [] .cap, .int .i64 0] [(0, 1, AV.copy v1)]).bind fun v2 =>
  (bx h v2).bind fun p3 =>
  (call 23 [AV.canon p3.1, AV.canon (.int .i64 1)] p3.2).bind fun p4 => retOr p4.1 (fun r5p => some (AEnd.pan r5p, p4.2)) fun r5 =>
  (lnSl x0).bind fun v6 =>
  (nilOk p3.1).bind fun v7 =>
  (fAddr 0 v7).bind fun v8 =>
  (ldCell p4.2 v8).bind fun v9 =>
  (lnSl v9).bind fun v10 =>
  (bin .sub v6 v10).bind fun v11 =>
  (slSlice 5 x0 (some (.int .i64 1)) (some v11) (some v11)).bind fun v12 =>
  (slSlice 5 x0 (some v11) none none).bind fun v13 =>
  some (AEnd.ret (.tuple [(AV.copy v12), (AV.copy v13)]), p4.2) := (hJ _ _ _ (by kernel_rfl)).trans (by kernel_rfl)
/-! ### slices.Clone[[]warrantor/api.Term,warrantor/api.Term]: function 21 -/
noncomputable def slices_Clone_api_Term_api_Term.A : FAnn := { nv := 2, mv := [(3, 1)], ld := [], lst := [], q := [], raw := [] }
noncomputable def slices_Clone_api_Term_api_Term.an : Ann := .nil
noncomputable abbrev slices_Clone_api_Term_api_Term.c : Code := Try.f21.body.getD .skip
noncomputable def slices_Clone_api_Term_api_Term.J (call : Cl) (n : Nat) : Jn (AEnd × H) := realJ Try.prog slices_Clone_api_Term_api_Term.A call Try.f21 slices_Clone_api_Term_api_Term.an slices_Clone_api_Term_api_Term.c n
abbrev slices_Clone_api_Term_api_Term.F (call : Cl) (n : Nat) (J : Jn (AEnd × H)) : Prop := JFix Try.prog slices_Clone_api_Term_api_Term.A call Try.f21 slices_Clone_api_Term_api_Term.an slices_Clone_api_Term_api_Term.c n J
def slices_Clone_api_Term_api_Term.f (J : Jn (AEnd × H)) (x0 : AV) (h : H) : Option (AEnd × H) := J [] [] ⟨[(0, x0)], [], [], h⟩
theorem slices_Clone_api_Term_api_Term.f_eq {call : Cl} {n : Nat} {J : Jn (AEnd × H)} (hJ : slices_Clone_api_Term_api_Term.F call n J) (x0 : AV) (h : H) : slices_Clone_api_Term_api_Term.f J x0 h =
  (slNil false x0).bind fun v1 =>
  condV v1 (
    some (AEnd.ret (.list [] .cap), h)) (
    (mkRows 5 [.int .i64 0, .int .i64 0, .int .i64 0, .int .i64 0, .str []] 0 []).bind fun v2 =>
    (apSlice 5 48 false false h v2 x0).bind fun v3 =>
    some (AEnd.ret v3, h)) := (hJ _ _ _ (by kernel_rfl)).trans (by kernel_rfl)
/-! ### warrantor/warrantorref32.Take: function 22 -/
noncomputable def warrantorref32_Take.A : FAnn := { nv := 10, mv := [(15, 0), (19, 0), (19, 1), (21, 0), (22, 0), (22, 1)], ld := [], lst := [], q := [], raw := [] }
noncomputable def warrantorref32_Take.an : Ann := .mk none .nil (.mk none .nil (.mk none .nil (.mk none (.mk none (.mk none .nil (.mk (some [(0, 0), (4, 255), (13, 0)]) .nil (.mk none .nil (.mk (some [(0, 0), (4, 255), (31, 0)]) .nil (.mk none .nil (.mk (some [(0, 0), (4, 255), (43, 0)]) .nil .nil)))))) .nil) (.mk (some [(0, 0), (4, 255)]) .nil (.mk none .nil (.mk none (.mk none .nil (.mk none (.mk none (.mk (some [(0, 0), (4, 255), (5, 0), (6, 1), (7, 0)]) .nil .nil) .nil) .nil)) .nil))))))
noncomputable abbrev warrantorref32_Take.c : Code := Try.f22.body.getD .skip
noncomputable def warrantorref32_Take.J (call : Cl) (n : Nat) : Jn (AEnd × H) := realJ Try.prog warrantorref32_Take.A call Try.f22 warrantorref32_Take.an warrantorref32_Take.c n
abbrev warrantorref32_Take.F (call : Cl) (n : Nat) (J : Jn (AEnd × H)) : Prop := JFix Try.prog warrantorref32_Take.A call Try.f22 warrantorref32_Take.an warrantorref32_Take.c n J
def warrantorref32_Take.f (J : Jn (AEnd × H)) (x0 : AV) (h : H) : Option (AEnd × H) := J [] [] ⟨[(0, x0)], [], [], h⟩
def warrantorref32_Take.j1 (J : Jn (AEnd × H)) (x0 x4 x13 : AV) (h : H) : Option (AEnd × H) := J [1, 1, 1, 0, 0, 1] [] ⟨[(0, x0), (4, x4), (13, x13)], [(0, 0), (4, 255), (13, 0)], [], h⟩
def warrantorref32_Take.j2 (J : Jn (AEnd × H)) (x0 x4 x31 : AV) (h : H) : Option (AEnd × H) := J [1, 1, 1, 0, 0, 1, 1, 1] [] ⟨[(0, x0), (4, x4), (31, x31)], [(0, 0), (4, 255), (31, 0)], [], h⟩
def warrantorref32_Take.j0 (J : Jn (AEnd × H)) (x0 x4 : AV) (h : H) : Option (AEnd × H) := J [1, 1, 1, 1] [] ⟨[(0, x0), (4, x4)], [(0, 0), (4, 255)], [], h⟩
def warrantorref32_Take.j3 (J : Jn (AEnd × H)) (x0 x4 x43 : AV) (h : H) : Option (AEnd × H) := J [1, 1, 1, 0, 0, 1, 1, 1, 1, 1] [] ⟨[(0, x0), (4, x4), (43, x43)], [(0, 0), (4, 255), (43, 0)], [], h⟩
def warrantorref32_Take.l0 (J : Jn (AEnd × H)) (m0 : Nat) (x0 x4 x5 x6 x7 : AV) (h : H) : Option (AEnd × H) := J [1, 1, 1, 1, 1, 1, 0, 1, 0] [m0] ⟨[(0, x0), (4, x4), (5, x5), (6, x6), (7, x7)], [(0, 0), (4, 255), (5, 0), (6, 1), (7, 0)], [], h⟩
theorem warrantorref32_Take.f_eq {call : Cl} {n : Nat} {J : Jn (AEnd × H)} (hJ : warrantorref32_Take.F call n J) (x0 : AV) (h : H) : warrantorref32_Take.f J x0 h =
  (lnSl x0).bind fun v1 =>
  (bin .eql v1 (.int .i64 0)).bind fun v2 =>
  condV v2 (
    some (AEnd.ret (.tuple [(.int .i64 0), (.int .i64 0)]), h)) (
    (ixSlice 5 x0 (.int .i64 0)).bind fun v3 =>
    (ldAgg 5 h v3).bind fun v4 =>
    (call 28 [AV.canon v4] h).bind fun p5 => retOr p5.1 (fun r6p => some (AEnd.pan r6p, p5.2)) fun r6 =>
    condV r6 (
      warrantorref32_Take.j1 J  x0 (.int .i64 0) (.bool true) p5.2) (
      (ixSlice 5 x0 (.int .i64 0)).bind fun v7 =>
      (fAddr 0 v7).bind fun v8 =>
      (ldCell p5.2 v8).bind fun v9 =>
      (bin .eql v9 (.int .i64 1)).bind fun v10 =>
      condV v10 (
        (ixSlice 5 x0 (.int .i64 0)).bind fun v11 =>
        (ldAgg 5 p5.2 v11).bind fun v12 =>
        (call 29 [AV.canon v12] p5.2).bind fun p13 => retOr p13.1 (fun r14p => some (AEnd.pan r14p, p13.2)) fun r14 =>
        warrantorref32_Take.j1 J  x0 (.int .i64 0) r14 p13.2) (
        warrantorref32_Take.j1 J  x0 (.int .i64 0) (.bool false) p5.2))) := (hJ _ _ _ (by kernel_rfl)).trans (by kernel_rfl)
theorem warrantorref32_Take.j1_eq {call : Cl} {n : Nat} {J : Jn (AEnd × H)} (hJ : warrantorref32_Take.F call n J) (x0 x4 x13 : AV) (h : H) : warrantorref32_Take.j1 J  x0 x4 x13 h =
  condV x13 (
    some (AEnd.ret (.tuple [(.int .i64 1), (.int .i64 1)]), h)) (
    (ixSlice 5 x0 (.int .i64 0)).bind fun v15 =>
    (fAddr 0 v15).bind fun v16 =>
    (ldCell h v16).bind fun v17 =>
    (bin .eql v17 (.int .i64 3)).bind fun v18 =>
    condV v18 (
      (ixSlice 5 x0 (.int .i64 0)).bind fun v19 =>
      (ldAgg 5 h v19).bind fun v20 =>
      (call 29 [AV.canon v20] h).bind fun p21 => retOr p21.1 (fun r22p => some (AEnd.pan r22p, p21.2)) fun r22 =>
      warrantorref32_Take.j2 J  x0 x4 r22 p21.2) (
      warrantorref32_Take.j2 J  x0 x4 (.bool false) h)) := (hJ _ _ _ (by kernel_rfl)).trans (by kernel_rfl)
theorem warrantorref32_Take.j2_eq {call : Cl} {n : Nat} {J : Jn (AEnd × H)} (hJ : warrantorref32_Take.F call n J) (x0 x4 x31 : AV) (h : H) : warrantorref32_Take.j2 J  x0 x4 x31 h =
  condV x31 (
    warrantorref32_Take.j0 J  x0 (.int .i64 1) h) (
    (ixSlice 5 x0 (.int .i64 0)).bind fun v23 =>
    (fAddr 0 v23).bind fun v24 =>
    (ldCell h v24).bind fun v25 =>
    (bin .eql v25 (.int .i64 4)).bind fun v26 =>
    condV v26 (
      (ixSlice 5 x0 (.int .i64 0)).bind fun v27 =>
      (ldAgg 5 h v27).bind fun v28 =>
      (call 29 [AV.canon v28] h).bind fun p29 => retOr p29.1 (fun r30p => some (AEnd.pan r30p, p29.2)) fun r30 =>
      warrantorref32_Take.j3 J  x0 x4 r30 p29.2) (
      (ixSlice 5 x0 (.int .i64 0)).bind fun v31 =>
      (fAddr 0 v31).bind fun v32 =>
      (ldCell h v32).bind fun v33 =>
      (bin .eql v33 (.int .i64 5)).bind fun v34 =>
      condV v34 (
        (ixSlice 5 x0 (.int .i64 0)).bind fun v35 =>
        (ldAgg 5 h v35).bind fun v36 =>
        (call 29 [AV.canon v36] h).bind fun p37 => retOr p37.1 (fun r38p => some (AEnd.pan r38p, p37.2)) fun r38 =>
        warrantorref32_Take.j3 J  x0 x4 r38 p37.2) (
        warrantorref32_Take.j3 J  x0 x4 (.bool false) h))) := (hJ _ _ _ (by kernel_rfl)).trans (by kernel_rfl)
theorem warrantorref32_Take.j0_eq {call : Cl} {n : Nat} {J : Jn (AEnd × H)} (hJ : warrantorref32_Take.F call n J) (x0 x4 : AV) (h : H) : warrantorref32_Take.j0 J  x0 x4 h =
  (bin .eql x4 (.int .i64 0)).bind fun v39 =>
  condV v39 (
    some (AEnd.ret (.tuple [(.int .i64 0), (.int .i64 0)]), h)) (
    warrantorref32_Take.l0 J n x0 x4 (.int .i64 1) (.int .i64 0) (.int .i64 0) h) := (hJ _ _ _ (by kernel_rfl)).trans (by kernel_rfl)
theorem warrantorref32_Take.j3_eq {call : Cl} {n : Nat} {J : Jn (AEnd × H)} (hJ : warrantorref32_Take.F call n J) (x0 x4 x43 : AV) (h : H) : warrantorref32_Take.j3 J  x0 x4 x43 h =
  condV x43 (
    warrantorref32_Take.j0 J  x0 (.int .i64 2) h) (
    warrantorref32_Take.j0 J  x0 x4 h) := (hJ _ _ _ (by kernel_rfl)).trans (by kernel_rfl)
theorem warrantorref32_Take.l0_eq {call : Cl} {n : Nat} {J : Jn (AEnd × H)} (hJ : warrantorref32_Take.F call n J) (m0 : Nat) (x0 x4 x5 x6 x7 : AV) (h : H) : warrantorref32_Take.l0 J (m0 + 1) x0 x4 x5 x6 x7 h =
  (bin .lss x7 x4).bind fun v40 =>
  condV v40 (
    (slSlice 5 x0 (some x5) none none).bind fun v41 =>
    (call 22 [AV.canon v41] h).bind fun p42 => retOr p42.1 (fun r43p => some (AEnd.pan r43p, p42.2)) fun r43 =>
    (exTuple 0 r43).bind fun v44 =>
    (exTuple 1 r43).bind fun v45 =>
    (bin .eql v44 (.int .i64 0)).bind fun v46 =>
    condV v46 (
      some (AEnd.ret (.tuple [(.int .i64 0), (.int .i64 0)]), p42.2)) (
      (bin .add x5 v44).bind fun v47 =>
      (bin .gtr v45 x6).bind fun v48 =>
      condV v48 (
        (bin .add x7 (.int .i64 1)).bind fun v49 =>
        warrantorref32_Take.l0 J m0 x0 x4 v47 v45 v49 p42.2) (
        (bin .add x7 (.int .i64 1)).bind fun v50 =>
        warrantorref32_Take.l0 J m0 x0 x4 v47 x6 v50 p42.2))) (
    (bin .add x6 (.int .i64 1)).bind fun v51 =>
    some (AEnd.ret (.tuple [(AV.copy x5), (AV.copy v51)]), h)) := (hJ _ _ _ (by kernel_rfl)).trans (by kernel_rfl)
/-! ### (*warrantor/ask.taker).take: function 23 -/
noncomputable def ask_taker_take.A : FAnn := { nv := 6, mv := [(10, 0)], ld := [], lst := [], q := [], raw := [] }
noncomputable def ask_taker_take.an : Ann := .mk none .nil (.mk none .nil (.mk none .nil (.mk none .nil (.mk none (.mk none .nil (.mk none (.mk none (.mk (some [(0, 0), (1, 0), (5, 255), (36, 0), (37, 0)]) .nil .nil) .nil) .nil)) .nil))))
noncomputable abbrev ask_taker_take.c : Code := Try.f23.body.getD .skip
noncomputable def ask_taker_take.J (call : Cl) (n : Nat) : Jn (AEnd × H) := realJ Try.prog ask_taker_take.A call Try.f23 ask_taker_take.an ask_taker_take.c n
abbrev ask_taker_take.F (call : Cl) (n : Nat) (J : Jn (AEnd × H)) : Prop := JFix Try.prog ask_taker_take.A call Try.f23 ask_taker_take.an ask_taker_take.c n J
def ask_taker_take.f (J : Jn (AEnd × H)) (x0 x1 : AV) (h : H) : Option (AEnd × H) := J [] [] ⟨[(0, x0), (1, x1)], [], [], h⟩
def ask_taker_take.l0 (J : Jn (AEnd × H)) (m0 : Nat) (x0 x1 x5 x36 x37 : AV) (h : H) : Option (AEnd × H) := J [1, 1, 1, 1, 0, 1, 0] [m0] ⟨[(0, x0), (1, x1), (5, x5), (36, x36), (37, x37)], [(0, 0), (1, 0), (5, 255), (36, 0), (37, 0)], [], h⟩
theorem ask_taker_take.f_eq {call : Cl} {n : Nat} {J : Jn (AEnd × H)} (hJ : ask_taker_take.F call n J) (x0 x1 : AV) (h : H) : ask_taker_take.f J x0 x1 h =
  (nilOk x0).bind fun v1 =>
  (fAddr 0 v1).bind fun v2 =>
  (ldCell h v2).bind fun v3 =>
  (lnSl v3).bind fun v4 =>
  (bin .eql v4 (.int .i64 0)).bind fun v5 =>
  condV v5 (
    some (AEnd.ret (.bool false), h)) (
    (nilOk x0).bind fun v6 =>
    (fAddr 0 v6).bind fun v7 =>
    (ldCell h v7).bind fun v8 =>
    (ixSlice 5 v8 (.int .i64 0)).bind fun v9 =>
    (ldAgg 5 h v9).bind fun v10 =>
    (call 19 [AV.canon v10] h).bind fun p11 => retOr p11.1 (fun r12p => some (AEnd.pan r12p, p11.2)) fun r12 =>
    (nilOk x0).bind fun v13 =>
    (fAddr 0 v13).bind fun v14 =>
    (ldCell p11.2 v14).bind fun v15 =>
    (slSlice 5 v15 (some (.int .i64 1)) none none).bind fun v16 =>
    (nilOk x0).bind fun v17 =>
    (fAddr 1 v17).bind fun v18 =>
    (ldCell p11.2 v18).bind fun v19 =>
    (maxMinAll true [v19, x1]).bind fun v20 =>
    (nilOk x0).bind fun v21 =>
    (fAddr 0 v21).bind fun v22 =>
    (stN 1 p11.2 v22 (AV.copy v16)).bind fun p23 =>
    (nilOk x0).bind fun v24 =>
    (fAddr 1 v24).bind fun v25 =>
    (stN 1 p23.2 v25 (AV.copy v20)).bind fun p26 =>
    ask_taker_take.l0 J n x0 x1 r12 r12 (.int .i64 0) p26.2) := (hJ _ _ _ (by kernel_rfl)).trans (by kernel_rfl)
theorem ask_taker_take.l0_eq {call : Cl} {n : Nat} {J : Jn (AEnd × H)} (hJ : ask_taker_take.F call n J) (m0 : Nat) (x0 x1 x5 x36 x37 : AV) (h : H) : ask_taker_take.l0 J (m0 + 1) x0 x1 x5 x36 x37 h =
  (bin .lss x37 x36).bind fun v27 =>
  condV v27 (
    (bin .add x1 (.int .i64 1)).bind fun v28 =>
    (call 23 [AV.canon x0, AV.canon v28] h).bind fun p29 => retOr p29.1 (fun r30p => some (AEnd.pan r30p, p29.2)) fun r30 =>
    (unOp .not r30).bind fun v31 =>
    condV v31 (
      some (AEnd.ret (.bool false), p29.2)) (
      (bin .add x37 (.int .i64 1)).bind fun v32 =>
      ask_taker_take.l0 J m0 x0 x1 x5 x36 v32 p29.2)) (
    (bin .geq x5 (.int .i64 0)).bind fun v33 =>
    some (AEnd.ret (AV.copy v33), h)) := (hJ _ _ _ (by kernel_rfl)).trans (by kernel_rfl)
/-! ### warrantor/ask.without: function 24 -/
noncomputable def ask_without.A : FAnn := { nv := 8, mv := [(4, 0), (4, 2), (8, 0), (9, 0), (10, 0), (10, 3), (10, 6), (10, 7), (11, 0), (12, 1), (13, 0)], ld := [], lst := [], q := [], raw := [] }
noncomputable def ask_without.an : Ann := .mk none .nil (.mk none .nil (.mk none (.mk none .nil (.mk none (.mk none .nil (.mk none .nil (.mk none .nil (.mk (some [(0, 0), (1, 0), (5, 0), (20, 0)]) (.mk none .nil (.mk (some [(0, 0), (1, 0), (5, 0)]) .nil .nil)) .nil)))) .nil)) (.mk (some [(0, 0), (1, 0)]) .nil .nil)))
noncomputable abbrev ask_without.c : Code := Try.f24.body.getD .skip
noncomputable def ask_without.J (call : Cl) (n : Nat) : Jn (AEnd × H) := realJ Try.prog ask_without.A call Try.f24 ask_without.an ask_without.c n
abbrev ask_without.F (call : Cl) (n : Nat) (J : Jn (AEnd × H)) : Prop := JFix Try.prog ask_without.A call Try.f24 ask_without.an ask_without.c n J
def ask_without.f (J : Jn (AEnd × H)) (x0 x1 : AV) (h : H) : Option (AEnd × H) := J [] [] ⟨[(0, x0), (1, x1)], [], [], h⟩
def ask_without.j1 (J : Jn (AEnd × H)) (x0 x1 x5 x20 : AV) (h : H) : Option (AEnd × H) := J [1, 1, 0, 1, 0, 1, 1, 1] [] ⟨[(0, x0), (1, x1), (5, x5), (20, x20)], [(0, 0), (1, 0), (5, 0), (20, 0)], [], h⟩
def ask_without.j2 (J : Jn (AEnd × H)) (x0 x1 x5 : AV) (h : H) : Option (AEnd × H) := J [1, 1, 0, 1, 0, 1, 1, 1, 0, 1] [] ⟨[(0, x0), (1, x1), (5, x5)], [(0, 0), (1, 0), (5, 0)], [], h⟩
def ask_without.j0 (J : Jn (AEnd × H)) (x0 x1 : AV) (h : H) : Option (AEnd × H) := J [1, 1, 1] [] ⟨[(0, x0), (1, x1)], [(0, 0), (1, 0)], [], h⟩
theorem ask_without.f_eq {call : Cl} {n : Nat} {J : Jn (AEnd × H)} (hJ : ask_without.F call n J) (x0 x1 : AV) (h : H) : ask_without.f J x0 x1 h =
  (ixSlice 5 x0 (.int .i64 0)).bind fun v1 =>
  (fAddr 0 v1).bind fun v2 =>
  (ldCell h v2).bind fun v3 =>
  (bin .eql v3 (.int .i64 3)).bind fun v4 =>
  condV v4 (
    (slSlice 5 x0 (some (.int .i64 1)) none none).bind fun v5 =>
    (unOp .not x1).bind fun v6 =>
    (call 24 [AV.canon v5, AV.canon v6] h).bind fun p7 => retOr p7.1 (fun r8p => some (AEnd.pan r8p, p7.2)) fun r8 =>
    some (AEnd.ret r8, p7.2)) (
    (bin .eql v3 (.int .i64 4)).bind fun v9 =>
    condV v9 (
      ask_without.j1 J  x0 x1 v3 v9 h) (
      (bin .eql v3 (.int .i64 5)).bind fun v10 =>
      ask_without.j1 J  x0 x1 v3 v10 h)) := (hJ _ _ _ (by kernel_rfl)).trans (by kernel_rfl)
theorem ask_without.j1_eq {call : Cl} {n : Nat} {J : Jn (AEnd × H)} (hJ : ask_without.F call n J) (x0 x1 x5 x20 : AV) (h : H) : ask_without.j1 J  x0 x1 x5 x20 h =
  condV x20 (
    condV x1 (
      (bin .sub (.int .i64 9) x5).bind fun v11 =>
      ask_without.j2 J  x0 x1 v11 h) (
      ask_without.j2 J  x0 x1 x5 h)) (
    ask_without.j0 J  x0 x1 h) := (hJ _ _ _ (by kernel_rfl)).trans (by kernel_rfl)
theorem ask_without.j2_eq {call : Cl} {n : Nat} {J : Jn (AEnd × H)} (hJ : ask_without.F call n J) (x0 x1 x5 : AV) (h : H) : ask_without.j2 J  x0 x1 x5 h =
  (call 20 [AV.canon x0] h).bind fun p12 => retOr p12.1 (fun r13p => some (AEnd.pan r13p, p12.2)) fun r13 =>
  (exTuple 0 r13).bind fun v14 =>
  (exTuple 1 r13).bind fun v15 =>
  (mkAgg [.int .i64 0, .int .i64 0, .int .i64 0, .int .i64 0, .str []] [(0, 1, AV.copy x5)]).bind fun v16 =>
  (mkRows 5 [.int .i64 0, .int .i64 0, .int .i64 0, .int .i64 0, .str []] 1 [(0, v16)]).bind fun v17 =>
  (call 24 [AV.canon v14, AV.canon x1] p12.2).bind fun p18 => retOr p18.1 (fun r19p => some (AEnd.pan r19p, p18.2)) fun r19 =>
  (call 24 [AV.canon v15, AV.canon x1] p18.2).bind fun p20 => retOr p20.1 (fun r21p => some (AEnd.pan r21p, p20.2)) fun r21 =>
  (mkRows 1 [.list [] .cap] 3 [(0, v17), (1, r19), (2, r21)]).bind fun v22 =>
  (call 30 [AV.canon v22] p20.2).bind fun p23 => retOr p23.1 (fun r24p => some (AEnd.pan r24p, p23.2)) fun r24 =>
  some (AEnd.ret r24, p23.2) := (hJ _ _ _ (by kernel_rfl)).trans (by kernel_rfl)
theorem ask_without.j0_eq {call : Cl} {n : Nat} {J : Jn (AEnd × H)} (hJ : ask_without.F call n J) (x0 x1 : AV) (h : H) : ask_without.j0 J  x0 x1 h =
  condV x1 (
    (mkAgg [.int .i64 0, .int .i64 0, .int .i64 0, .int .i64 0, .str []] [(0, 1, AV.copy (.int .i64 3))]).bind fun v25 =>
    (ixSlice 5 x0 (.int .i64 0)).bind fun v26 =>
    (ldAgg 5 h v26).bind fun v27 =>
    (mkRows 5 [.int .i64 0, .int .i64 0, .int .i64 0, .int .i64 0, .str []] 2 [(0, v25), (1, v27)]).bind fun v28 =>
    some (AEnd.ret (AV.copy v28), h)) (
    (ixSlice 5 x0 (.int .i64 0)).bind fun v29 =>
    (ldAgg 5 h v29).bind fun v30 =>
    (mkRows 5 [.int .i64 0, .int .i64 0, .int .i64 0, .int .i64 0, .str []] 1 [(0, v30)]).bind fun v31 =>
    some (AEnd.ret (AV.copy v31), h)) := (hJ _ _ _ (by kernel_rfl)).trans (by kernel_rfl)
/-! ### warrantor/ask.within: function 25 -/
noncomputable def ask_within.A : FAnn := { nv := 6, mv := [(1, 1), (1, 4), (1, 5)], ld := [], lst := [], q := [], raw := [] }
noncomputable def ask_within.an : Ann := .nil
noncomputable abbrev ask_within.c : Code := Try.f25.body.getD .skip
noncomputable def ask_within.J (call : Cl) (n : Nat) : Jn (AEnd × H) := realJ Try.prog ask_within.A call Try.f25 ask_within.an ask_within.c n
abbrev ask_within.F (call : Cl) (n : Nat) (J : Jn (AEnd × H)) : Prop := JFix Try.prog ask_within.A call Try.f25 ask_within.an ask_within.c n J
def ask_within.f (J : Jn (AEnd × H)) (x0 x1 x2 : AV) (h : H) : Option (AEnd × H) := J [] [] ⟨[(0, x0), (1, x1), (2, x2)], [], [], h⟩
theorem ask_within.f_eq {call : Cl} {n : Nat} {J : Jn (AEnd × H)} (hJ : ask_within.F call n J) (x0 x1 x2 : AV) (h : H) : ask_within.f J x0 x1 x2 h =
  (bin .geq x0 x1).bind fun v1 =>
  condV v1 (
    (bin .leq x0 x2).bind fun v2 =>
    some (AEnd.ret (AV.copy v2), h)) (
    some (AEnd.ret (AV.copy (.bool false)), h)) := (hJ _ _ _ (by kernel_rfl)).trans (by kernel_rfl)
/-! ### slices.Equal[[]warrantor/api.Term,warrantor/api.Term]: function 26 -/
noncomputable def slices_Equal_api_Term_api_Term.A : FAnn := { nv := 6, mv := [(6, 5)], ld := [], lst := [], q := [], raw := [] }
noncomputable def slices_Equal_api_Term_api_Term.an : Ann := .mk none .nil (.mk none .nil (.mk none (.mk none .nil (.mk none (.mk none (.mk (some [(0, 0), (1, 0), (12, 0), (13, 0)]) .nil .nil) .nil) .nil)) .nil))
noncomputable abbrev slices_Equal_api_Term_api_Term.c : Code := Try.f26.body.getD .skip
noncomputable def slices_Equal_api_Term_api_Term.J (call : Cl) (n : Nat) : Jn (AEnd × H) := realJ Try.prog slices_Equal_api_Term_api_Term.A call Try.f26 slices_Equal_api_Term_api_Term.an slices_Equal_api_Term_api_Term.c n
abbrev slices_Equal_api_Term_api_Term.F (call : Cl) (n : Nat) (J : Jn (AEnd × H)) : Prop := JFix Try.prog slices_Equal_api_Term_api_Term.A call Try.f26 slices_Equal_api_Term_api_Term.an slices_Equal_api_Term_api_Term.c n J
def slices_Equal_api_Term_api_Term.f (J : Jn (AEnd × H)) (x0 x1 : AV) (h : H) : Option (AEnd × H) := J [] [] ⟨[(0, x0), (1, x1)], [], [], h⟩
def slices_Equal_api_Term_api_Term.l0 (J : Jn (AEnd × H)) (m0 : Nat) (x0 x1 x12 x13 : AV) (h : H) : Option (AEnd × H) := J [1, 1, 0, 1, 0] [m0] ⟨[(0, x0), (1, x1), (12, x12), (13, x13)], [(0, 0), (1, 0), (12, 0), (13, 0)], [], h⟩
theorem slices_Equal_api_Term_api_Term.f_eq {call : Cl} {n : Nat} {J : Jn (AEnd × H)} (hJ : slices_Equal_api_Term_api_Term.F call n J) (x0 x1 : AV) (h : H) : slices_Equal_api_Term_api_Term.f J x0 x1 h =
  (lnSl x0).bind fun v1 =>
  (lnSl x1).bind fun v2 =>
  (bin .neq v1 v2).bind fun v3 =>
  condV v3 (
    some (AEnd.ret (.bool false), h)) (
    (lnSl x0).bind fun v4 =>
    slices_Equal_api_Term_api_Term.l0 J n x0 x1 v4 (.int .i64 0) h) := (hJ _ _ _ (by kernel_rfl)).trans (by kernel_rfl)
theorem slices_Equal_api_Term_api_Term.l0_eq {call : Cl} {n : Nat} {J : Jn (AEnd × H)} (hJ : slices_Equal_api_Term_api_Term.F call n J) (m0 : Nat) (x0 x1 x12 x13 : AV) (h : H) : slices_Equal_api_Term_api_Term.l0 J (m0 + 1) x0 x1 x12 x13 h =
  (bin .lss x13 x12).bind fun v5 =>
  condV v5 (
    (ixSlice 5 x0 x13).bind fun v6 =>
    (ldAgg 5 h v6).bind fun v7 =>
    (ixSlice 5 x1 x13).bind fun v8 =>
    (ldAgg 5 h v8).bind fun v9 =>
    (eqv true (aeq Try.prog 20 31 v7 v9)).bind fun v10 =>
    condV v10 (
      some (AEnd.ret (.bool false), h)) (
      (bin .add x13 (.int .i64 1)).bind fun v11 =>
      slices_Equal_api_Term_api_Term.l0 J m0 x0 x1 x12 v11 h)) (
    some (AEnd.ret (.bool true), h)) := (hJ _ _ _ (by kernel_rfl)).trans (by kernel_rfl)
/-! ### warrantor/ask.compares: function 27 -/
noncomputable def ask_compares.A : FAnn := { nv := 4, mv := [], ld := [], lst := [], q := [31], raw := [] }
noncomputable def ask_compares.an : Ann := .mk none .nil (.mk none (.mk none .nil (.mk (some [(1, 0), (26, 0)]) .nil .nil)) (.mk (some [(1, 0)]) .nil .nil))
noncomputable abbrev ask_compares.c : Code := Try.f27.body.getD .skip
noncomputable def ask_compares.J (call : Cl) (n : Nat) : Jn (AEnd × H) := realJ Try.prog ask_compares.A call Try.f27 ask_compares.an ask_compares.c n
abbrev ask_compares.F (call : Cl) (n : Nat) (J : Jn (AEnd × H)) : Prop := JFix Try.prog ask_compares.A call Try.f27 ask_compares.an ask_compares.c n J
def ask_compares.f (J : Jn (AEnd × H)) (x0 : AV) (h : H) : Option (AEnd × H) := J [] [] ⟨[(0, x0)], [], [], h⟩
def ask_compares.j1 (J : Jn (AEnd × H)) (x1 x26 : AV) (h : H) : Option (AEnd × H) := J [1, 0, 1] [] ⟨[(1, x1), (26, x26)], [(1, 0), (26, 0)], [], h⟩
def ask_compares.j0 (J : Jn (AEnd × H)) (x1 : AV) (h : H) : Option (AEnd × H) := J [1, 1] [] ⟨[(1, x1)], [(1, 0)], [], h⟩
theorem ask_compares.f_eq {call : Cl} {n : Nat} {J : Jn (AEnd × H)} (hJ : ask_compares.F call n J) (x0 : AV) (h : H) : ask_compares.f J x0 h =
  (bx h (AV.copy x0)).bind fun p1 =>
  (fAddr 0 p1.1).bind fun v2 =>
  (ldCell p1.2 v2).bind fun v3 =>
  (bin .neq v3 (.int .i64 2)).bind fun v4 =>
  condV v4 (
    ask_compares.j1 J  p1.1 (.bool true) p1.2) (
    (fAddr 1 p1.1).bind fun v5 =>
    (ldCell p1.2 v5).bind fun v6 =>
    (bin .lss v6 (.int .i64 1)).bind fun v7 =>
    condV v7 (
      ask_compares.j1 J  p1.1 (.bool true) p1.2) (
      (fAddr 1 p1.1).bind fun v8 =>
      (ldCell p1.2 v8).bind fun v9 =>
      (bin .gtr v9 (.int .i64 10)).bind fun v10 =>
      condV v10 (
        ask_compares.j1 J  p1.1 (.bool true) p1.2) (
        (fAddr 2 p1.1).bind fun v11 =>
        (ldCell p1.2 v11).bind fun v12 =>
        (bin .lss v12 (.int .i64 1)).bind fun v13 =>
        condV v13 (
          ask_compares.j1 J  p1.1 (.bool true) p1.2) (
          (fAddr 2 p1.1).bind fun v14 =>
          (ldCell p1.2 v14).bind fun v15 =>
          (bin .gtr v15 (.int .i64 5)).bind fun v16 =>
          ask_compares.j1 J  p1.1 v16 p1.2)))) := (hJ _ _ _ (by kernel_rfl)).trans (by kernel_rfl)
theorem ask_compares.j1_eq {call : Cl} {n : Nat} {J : Jn (AEnd × H)} (hJ : ask_compares.F call n J) (x1 x26 : AV) (h : H) : ask_compares.j1 J  x1 x26 h =
  condV x26 (
    some (AEnd.ret (.bool false), h)) (
    ask_compares.j0 J  x1 h) := (hJ _ _ _ (by kernel_rfl)).trans (by kernel_rfl)
theorem ask_compares.j0_eq {call : Cl} {n : Nat} {J : Jn (AEnd × H)} (hJ : ask_compares.F call n J) (x1 : AV) (h : H) : ask_compares.j0 J  x1 h =
  (call 31 [] h).bind fun p17 => retOr p17.1 (fun _ => none) fun r18 =>
  (fAddr 1 x1).bind fun v19 =>
  (ldCell p17.2 v19).bind fun v20 =>
  (ixAgg true 4 11 r18 v20).bind fun v21 =>
  let h22 : H := p17.2 ++ [.arr [.int .i64 0, .int .i64 0, .str [], .nilFunc] false]
  (stN 4 h22 (.ptr p17.2.length 0) (AV.copy v21)).bind fun p23 =>
  (fAddr 2 (.ptr p17.2.length 0)).bind fun v24 =>
  (ldCell p23.2 v24).bind fun v25 =>
  (fAddr 2 x1).bind fun v26 =>
  (ldCell p23.2 v26).bind fun v27 =>
  (cvInt .u8 v27).bind fun v28 =>
  (call 32 [AV.canon v25, AV.canon v28] p23.2).bind fun p29 => retOr p29.1 (fun r30p => some (AEnd.pan r30p, p29.2)) fun r30 =>
  (bin .geq r30 (.int .i64 0)).bind fun v31 =>
  condV v31 (
    (fAddr 3 x1).bind fun v32 =>
    (ldCell p29.2 v32).bind fun v33 =>
    (fAddr 0 (.ptr p17.2.length 0)).bind fun v34 =>
    (ldCell p29.2 v34).bind fun v35 =>
    (bin .geq v33 v35).bind fun v36 =>
    condV v36 (
      (fAddr 3 x1).bind fun v37 =>
      (ldCell p29.2 v37).bind fun v38 =>
      (fAddr 1 (.ptr p17.2.length 0)).bind fun v39 =>
      (ldCell p29.2 v39).bind fun v40 =>
      (bin .leq v38 v40).bind fun v41 =>
      condV v41 (
        (fAddr 3 (.ptr p17.2.length 0)).bind fun v42 =>
        (ldCell p29.2 v42).bind fun v43 =>
        (fAddr 4 x1).bind fun v44 =>
        (ldCell p29.2 v44).bind fun v45 =>
        (callVal call p29.2 v43 [AV.canon v45]).bind fun p46 => retOr p46.1 (fun r47p => some (AEnd.pan r47p, p46.2)) fun r47 =>
        some (AEnd.ret (AV.copy r47), p46.2)) (
        some (AEnd.ret (AV.copy (.bool false)), p29.2))) (
      some (AEnd.ret (AV.copy (.bool false)), p29.2))) (
    some (AEnd.ret (AV.copy (.bool false)), p29.2)) := (hJ _ _ _ (by kernel_rfl)).trans (by kernel_rfl)
/-! ### warrantor/warrantorref32.Cmp: function 28 -/
noncomputable def warrantorref32_Cmp.A : FAnn := { nv := 5, mv := [(19, 9)], ld := [], lst := [], q := [], raw := [] }
noncomputable def warrantorref32_Cmp.an : Ann := .mk none .nil (.mk none .nil (.mk none (.mk none .nil (.mk none (.mk none .nil (.mk (some [(1, 0), (9, 0), (10, 0)]) .nil (.mk none .nil (.mk none .nil (.mk none .nil (.mk (some [(1, 0), (9, 0), (51, 0)]) .nil (.mk none .nil (.mk (some [(1, 0), (9, 0), (82, 0)]) .nil .nil)))))))) .nil)) .nil))
noncomputable abbrev warrantorref32_Cmp.c : Code := Try.f28.body.getD .skip
noncomputable def warrantorref32_Cmp.J (call : Cl) (n : Nat) : Jn (AEnd × H) := realJ Try.prog warrantorref32_Cmp.A call Try.f28 warrantorref32_Cmp.an warrantorref32_Cmp.c n
abbrev warrantorref32_Cmp.F (call : Cl) (n : Nat) (J : Jn (AEnd × H)) : Prop := JFix Try.prog warrantorref32_Cmp.A call Try.f28 warrantorref32_Cmp.an warrantorref32_Cmp.c n J
def warrantorref32_Cmp.f (J : Jn (AEnd × H)) (x0 : AV) (h : H) : Option (AEnd × H) := J [] [] ⟨[(0, x0)], [], [], h⟩
def warrantorref32_Cmp.j0 (J : Jn (AEnd × H)) (x1 x9 x10 : AV) (h : H) : Option (AEnd × H) := J [1, 1, 0, 1, 0, 1] [] ⟨[(1, x1), (9, x9), (10, x10)], [(1, 0), (9, 0), (10, 0)], [], h⟩
def warrantorref32_Cmp.j1 (J : Jn (AEnd × H)) (x1 x9 x51 : AV) (h : H) : Option (AEnd × H) := J [1, 1, 0, 1, 0, 1, 1, 1, 1, 1] [] ⟨[(1, x1), (9, x9), (51, x51)], [(1, 0), (9, 0), (51, 0)], [], h⟩
def warrantorref32_Cmp.j2 (J : Jn (AEnd × H)) (x1 x9 x82 : AV) (h : H) : Option (AEnd × H) := J [1, 1, 0, 1, 0, 1, 1, 1, 1, 1, 1, 1] [] ⟨[(1, x1), (9, x9), (82, x82)], [(1, 0), (9, 0), (82, 0)], [], h⟩
theorem warrantorref32_Cmp.f_eq {call : Cl} {n : Nat} {J : Jn (AEnd × H)} (hJ : warrantorref32_Cmp.F call n J) (x0 : AV) (h : H) : warrantorref32_Cmp.f J x0 h =
  (bx h (AV.copy x0)).bind fun p1 =>
  (fAddr 0 p1.1).bind fun v2 =>
  (ldCell p1.2 v2).bind fun v3 =>
  (bin .neq v3 (.int .i64 2)).bind fun v4 =>
  condV v4 (
    some (AEnd.ret (.bool false), p1.2)) (
    (fAddr 1 p1.1).bind fun v5 =>
    (ldCell p1.2 v5).bind fun v6 =>
    (bin .eql v6 (.int .i64 1)).bind fun v7 =>
    condV v7 (
      warrantorref32_Cmp.j0 J  p1.1 v6 v7 p1.2) (
      (bin .eql v6 (.int .i64 3)).bind fun v8 =>
      warrantorref32_Cmp.j0 J  p1.1 v6 v8 p1.2)) := (hJ _ _ _ (by kernel_rfl)).trans (by kernel_rfl)
theorem warrantorref32_Cmp.j0_eq {call : Cl} {n : Nat} {J : Jn (AEnd × H)} (hJ : warrantorref32_Cmp.F call n J) (x1 x9 x10 : AV) (h : H) : warrantorref32_Cmp.j0 J  x1 x9 x10 h =
  condV x10 (
    (fAddr 2 x1).bind fun v9 =>
    (ldCell h v9).bind fun v10 =>
    (bin .eql v10 (.int .i64 1)).bind fun v11 =>
    condV v11 (
      (fAddr 3 x1).bind fun v12 =>
      (ldCell h v12).bind fun v13 =>
      (bin .geq v13 (.int .i64 1)).bind fun v14 =>
      condV v14 (
        (fAddr 3 x1).bind fun v15 =>
        (ldCell h v15).bind fun v16 =>
        (bin .leq v16 (.int .i64 3)).bind fun v17 =>
        condV v17 (
          (fAddr 4 x1).bind fun v18 =>
          (ldCell h v18).bind fun v19 =>
          (bin .eql v19 (.str [])).bind fun v20 =>
          some (AEnd.ret (AV.copy v20), h)) (
          some (AEnd.ret (AV.copy (.bool false)), h))) (
        some (AEnd.ret (AV.copy (.bool false)), h))) (
      some (AEnd.ret (AV.copy (.bool false)), h))) (
    (bin .eql x9 (.int .i64 2)).bind fun v21 =>
    condV v21 (
      (fAddr 2 x1).bind fun v22 =>
      (ldCell h v22).bind fun v23 =>
      (bin .eql v23 (.int .i64 1)).bind fun v24 =>
      condV v24 (
        (fAddr 3 x1).bind fun v25 =>
        (ldCell h v25).bind fun v26 =>
        (bin .geq v26 (.int .i64 1)).bind fun v27 =>
        condV v27 (
          (fAddr 3 x1).bind fun v28 =>
          (ldCell h v28).bind fun v29 =>
          (bin .leq v29 (.int .i64 2)).bind fun v30 =>
          condV v30 (
            (fAddr 4 x1).bind fun v31 =>
            (ldCell h v31).bind fun v32 =>
            (bin .eql v32 (.str [])).bind fun v33 =>
            some (AEnd.ret (AV.copy v33), h)) (
            some (AEnd.ret (AV.copy (.bool false)), h))) (
          some (AEnd.ret (AV.copy (.bool false)), h))) (
        some (AEnd.ret (AV.copy (.bool false)), h))) (
      (bin .eql x9 (.int .i64 4)).bind fun v34 =>
      condV v34 (
        warrantorref32_Cmp.j1 J  x1 x9 v34 h) (
        (bin .eql x9 (.int .i64 5)).bind fun v35 =>
        warrantorref32_Cmp.j1 J  x1 x9 v35 h))) := (hJ _ _ _ (by kernel_rfl)).trans (by kernel_rfl)
theorem warrantorref32_Cmp.j1_eq {call : Cl} {n : Nat} {J : Jn (AEnd × H)} (hJ : warrantorref32_Cmp.F call n J) (x1 x9 x51 : AV) (h : H) : warrantorref32_Cmp.j1 J  x1 x9 x51 h =
  condV x51 (
    (fAddr 2 x1).bind fun v36 =>
    (ldCell h v36).bind fun v37 =>
    (bin .eql v37 (.int .i64 1)).bind fun v38 =>
    condV v38 (
      (fAddr 3 x1).bind fun v39 =>
      (ldCell h v39).bind fun v40 =>
      (bin .geq v40 (.int .i64 0)).bind fun v41 =>
      condV v41 (
        (fAddr 3 x1).bind fun v42 =>
        (ldCell h v42).bind fun v43 =>
        (bin .leq v43 (.int .i64 1048576)).bind fun v44 =>
        condV v44 (
          (fAddr 4 x1).bind fun v45 =>
          (ldCell h v45).bind fun v46 =>
          (bin .eql v46 (.str [])).bind fun v47 =>
          some (AEnd.ret (AV.copy v47), h)) (
          some (AEnd.ret (AV.copy (.bool false)), h))) (
        some (AEnd.ret (AV.copy (.bool false)), h))) (
      (fAddr 2 x1).bind fun v48 =>
      (ldCell h v48).bind fun v49 =>
      (bin .eql v49 (.int .i64 4)).bind fun v50 =>
      condV v50 (
        (fAddr 3 x1).bind fun v51 =>
        (ldCell h v51).bind fun v52 =>
        (bin .geq v52 (.int .i64 0)).bind fun v53 =>
        condV v53 (
          (fAddr 3 x1).bind fun v54 =>
          (ldCell h v54).bind fun v55 =>
          (bin .leq v55 (.int .i64 1048576)).bind fun v56 =>
          condV v56 (
            (fAddr 4 x1).bind fun v57 =>
            (ldCell h v57).bind fun v58 =>
            (bin .eql v58 (.str [])).bind fun v59 =>
            some (AEnd.ret (AV.copy v59), h)) (
            some (AEnd.ret (AV.copy (.bool false)), h))) (
          some (AEnd.ret (AV.copy (.bool false)), h))) (
        (fAddr 2 x1).bind fun v60 =>
        (ldCell h v60).bind fun v61 =>
        (bin .eql v61 (.int .i64 5)).bind fun v62 =>
        condV v62 (
          (fAddr 3 x1).bind fun v63 =>
          (ldCell h v63).bind fun v64 =>
          (bin .geq v64 (.int .i64 0)).bind fun v65 =>
          condV v65 (
            (fAddr 3 x1).bind fun v66 =>
            (ldCell h v66).bind fun v67 =>
            (bin .leq v67 (.int .i64 1048576)).bind fun v68 =>
            condV v68 (
              (fAddr 4 x1).bind fun v69 =>
              (ldCell h v69).bind fun v70 =>
              (bin .eql v70 (.str [])).bind fun v71 =>
              some (AEnd.ret (AV.copy v71), h)) (
              some (AEnd.ret (AV.copy (.bool false)), h))) (
            some (AEnd.ret (AV.copy (.bool false)), h))) (
          some (AEnd.ret (AV.copy (.bool false)), h))))) (
    (bin .eql x9 (.int .i64 6)).bind fun v72 =>
    condV v72 (
      warrantorref32_Cmp.j2 J  x1 x9 v72 h) (
      (bin .eql x9 (.int .i64 7)).bind fun v73 =>
      condV v73 (
        warrantorref32_Cmp.j2 J  x1 x9 v73 h) (
        (bin .eql x9 (.int .i64 8)).bind fun v74 =>
        condV v74 (
          warrantorref32_Cmp.j2 J  x1 x9 v74 h) (
          (bin .eql x9 (.int .i64 9)).bind fun v75 =>
          warrantorref32_Cmp.j2 J  x1 x9 v75 h)))) := (hJ _ _ _ (by kernel_rfl)).trans (by kernel_rfl)
theorem warrantorref32_Cmp.j2_eq {call : Cl} {n : Nat} {J : Jn (AEnd × H)} (hJ : warrantorref32_Cmp.F call n J) (x1 x9 x82 : AV) (h : H) : warrantorref32_Cmp.j2 J  x1 x9 x82 h =
  condV x82 (
    (fAddr 2 x1).bind fun v76 =>
    (ldCell h v76).bind fun v77 =>
    (bin .geq v77 (.int .i64 1)).bind fun v78 =>
    condV v78 (
      (fAddr 2 x1).bind fun v79 =>
      (ldCell h v79).bind fun v80 =>
      (bin .leq v80 (.int .i64 3)).bind fun v81 =>
      condV v81 (
        (fAddr 3 x1).bind fun v82 =>
        (ldCell h v82).bind fun v83 =>
        (bin .eql v83 (.int .i64 0)).bind fun v84 =>
        condV v84 (
          (fAddr 4 x1).bind fun v85 =>
          (ldCell h v85).bind fun v86 =>
          (call 33 [AV.canon v86] h).bind fun p87 => retOr p87.1 (fun r88p => some (AEnd.pan r88p, p87.2)) fun r88 =>
          some (AEnd.ret (AV.copy r88), p87.2)) (
          some (AEnd.ret (AV.copy (.bool false)), h))) (
        some (AEnd.ret (AV.copy (.bool false)), h))) (
      some (AEnd.ret (AV.copy (.bool false)), h))) (
    (bin .eql x9 (.int .i64 10)).bind fun v89 =>
    condV v89 (
      (fAddr 4 x1).bind fun v90 =>
      (ldCell h v90).bind fun v91 =>
      (call 34 [AV.canon v91] h).bind fun p92 => retOr p92.1 (fun r93p => some (AEnd.pan r93p, p92.2)) fun r93 =>
      (exTuple 0 r93).bind fun v94 =>
      (exTuple 1 r93).bind fun v95 =>
      (fAddr 2 x1).bind fun v96 =>
      (ldCell p92.2 v96).bind fun v97 =>
      (bin .eql v97 (.int .i64 1)).bind fun v98 =>
      condV v98 (
        (fAddr 3 x1).bind fun v99 =>
        (ldCell p92.2 v99).bind fun v100 =>
        (bin .eql v100 (.int .i64 0)).bind fun v101 =>
        condV v101 (
          some (AEnd.ret (AV.copy v95), p92.2)) (
          some (AEnd.ret (AV.copy (.bool false)), p92.2))) (
        some (AEnd.ret (AV.copy (.bool false)), p92.2))) (
      some (AEnd.ret (.bool false), h))) := (hJ _ _ _ (by kernel_rfl)).trans (by kernel_rfl)
/-! ### warrantor/warrantorref32.plain: function 29 -/
noncomputable def warrantorref32_plain.A : FAnn := { nv := 2, mv := [], ld := [], lst := [], q := [], raw := [] }
noncomputable def warrantorref32_plain.an : Ann := .nil
noncomputable abbrev warrantorref32_plain.c : Code := Try.f29.body.getD .skip
noncomputable def warrantorref32_plain.J (call : Cl) (n : Nat) : Jn (AEnd × H) := realJ Try.prog warrantorref32_plain.A call Try.f29 warrantorref32_plain.an warrantorref32_plain.c n
abbrev warrantorref32_plain.F (call : Cl) (n : Nat) (J : Jn (AEnd × H)) : Prop := JFix Try.prog warrantorref32_plain.A call Try.f29 warrantorref32_plain.an warrantorref32_plain.c n J
def warrantorref32_plain.f (J : Jn (AEnd × H)) (x0 : AV) (h : H) : Option (AEnd × H) := J [] [] ⟨[(0, x0)], [], [], h⟩
theorem warrantorref32_plain.f_eq {call : Cl} {n : Nat} {J : Jn (AEnd × H)} (hJ : warrantorref32_plain.F call n J) (x0 : AV) (h : H) : warrantorref32_plain.f J x0 h =
  (bx h (AV.copy x0)).bind fun p1 =>
  (ldAgg 5 p1.2 p1.1).bind fun v2 =>
  (fAddr 0 p1.1).bind fun v3 =>
  (ldCell p1.2 v3).bind fun v4 =>
  (mkAgg [.int .i64 0, .int .i64 0, .int .i64 0, .int .i64 0, .str []] [(0, 1, AV.copy v4)]).bind fun v5 =>
  (eqv false (aeq Try.prog 20 31 v2 v5)).bind fun v6 =>
  some (AEnd.ret (AV.copy v6), p1.2) := (hJ _ _ _ (by kernel_rfl)).trans (by kernel_rfl)
/-! ### slices.Concat[[]warrantor/api.Term,warrantor/api.Term]: function 30 -/
noncomputable def slices_Concat_api_Term_api_Term.A : FAnn := { nv := 9, mv := [(5, 0), (5, 1), (9, 0), (10, 0), (13, 0), (13, 1), (15, 0)], ld := [], lst := [], q := [], raw := [35] }
noncomputable def slices_Concat_api_Term_api_Term.an : Ann := .mk none .nil (.mk none .nil (.mk none (.mk none .nil (.mk none (.mk none (.mk (some [(0, 0), (3, 0), (9, 0), (10, 0), (11, 0)]) .nil .nil) .nil) .nil)) (.mk none .nil (.mk none (.mk none .nil (.mk none (.mk none (.mk (some [(6, 255), (25, 0), (26, 0), (27, 0)]) .nil .nil) .nil) .nil)) .nil))))
noncomputable abbrev slices_Concat_api_Term_api_Term.c : Code := Try.f30.body.getD .skip
noncomputable def slices_Concat_api_Term_api_Term.J (call : Cl) (n : Nat) : Jn (AEnd × H) := realJ Try.prog slices_Concat_api_Term_api_Term.A call Try.f30 slices_Concat_api_Term_api_Term.an slices_Concat_api_Term_api_Term.c n
abbrev slices_Concat_api_Term_api_Term.F (call : Cl) (n : Nat) (J : Jn (AEnd × H)) : Prop := JFix Try.prog slices_Concat_api_Term_api_Term.A call Try.f30 slices_Concat_api_Term_api_Term.an slices_Concat_api_Term_api_Term.c n J
def slices_Concat_api_Term_api_Term.f (J : Jn (AEnd × H)) (x0 : AV) (h : H) : Option (AEnd × H) := J [] [] ⟨[(0, x0)], [], [], h⟩
def slices_Concat_api_Term_api_Term.l0 (J : Jn (AEnd × H)) (m0 : Nat) (x0 x3 x9 x10 x11 : AV) (h : H) : Option (AEnd × H) := J [1, 1, 0, 1, 0] [m0] ⟨[(0, x0), (3, x3), (9, x9), (10, x10), (11, x11)], [(0, 0), (3, 0), (9, 0), (10, 0), (11, 0)], [], h⟩
def slices_Concat_api_Term_api_Term.l1 (J : Jn (AEnd × H)) (m0 : Nat) (x6 x25 x26 x27 : AV) (h : H) : Option (AEnd × H) := J [1, 1, 1, 1, 0, 1, 0] [m0] ⟨[(6, x6), (25, x25), (26, x26), (27, x27)], [(6, 255), (25, 0), (26, 0), (27, 0)], [], h⟩
theorem slices_Concat_api_Term_api_Term.f_eq {call : Cl} {n : Nat} {J : Jn (AEnd × H)} (hJ : slices_Concat_api_Term_api_Term.F call n J) (x0 : AV) (h : H) : slices_Concat_api_Term_api_Term.f J x0 h =
  (lnSl x0).bind fun v1 =>
  slices_Concat_api_Term_api_Term.l0 J n x0 (.int .i64 0) x0 v1 (.int .i64 0) h := (hJ _ _ _ (by kernel_rfl)).trans (by kernel_rfl)
theorem slices_Concat_api_Term_api_Term.l0_eq {call : Cl} {n : Nat} {J : Jn (AEnd × H)} (hJ : slices_Concat_api_Term_api_Term.F call n J) (m0 : Nat) (x0 x3 x9 x10 x11 : AV) (h : H) : slices_Concat_api_Term_api_Term.l0 J (m0 + 1) x0 x3 x9 x10 x11 h =
  (bin .lss x11 x10).bind fun v2 =>
  condV v2 (
    (ixSlice 1 x9 x11).bind fun v3 =>
    (ldCell h v3).bind fun v4 =>
    (lnSl v4).bind fun v5 =>
    (bin .add x3 v5).bind fun v6 =>
    (bin .lss v6 (.int .i64 0)).bind fun v7 =>
    condV v7 (
      panOr (.iface 9 (AV.copy (.str [108, 101, 110, 32, 111, 117, 116, 32, 111, 102, 32, 114, 97, 110, 103, 101]))) fun w => some (AEnd.pan w, h)) (
      (bin .add x11 (.int .i64 1)).bind fun v8 =>
      slices_Concat_api_Term_api_Term.l0 J m0 x0 v6 x9 x10 v8 h)) (
    (call 35 [AV.copy (.list [] .cap), AV.copy x3] h).bind fun p9 => retOr p9.1 (fun r10p => some (AEnd.pan r10p, p9.2)) fun r10 =>
    (lnSl x0).bind fun v11 =>
    slices_Concat_api_Term_api_Term.l1 J n r10 x0 v11 (.int .i64 0) p9.2) := (hJ _ _ _ (by kernel_rfl)).trans (by kernel_rfl)
theorem slices_Concat_api_Term_api_Term.l1_eq {call : Cl} {n : Nat} {J : Jn (AEnd × H)} (hJ : slices_Concat_api_Term_api_Term.F call n J) (m0 : Nat) (x6 x25 x26 x27 : AV) (h : H) : slices_Concat_api_Term_api_Term.l1 J (m0 + 1) x6 x25 x26 x27 h =
  (bin .lss x27 x26).bind fun v12 =>
  condV v12 (
    (ixSlice 1 x25 x27).bind fun v13 =>
    (ldCell h v13).bind fun v14 =>
    (apSlice 5 48 false true h x6 v14).bind fun v15 =>
    (bin .add x27 (.int .i64 1)).bind fun v16 =>
    slices_Concat_api_Term_api_Term.l1 J m0 v15 x25 x26 v16 h) (
    some (AEnd.ret x6, h)) := (hJ _ _ _ (by kernel_rfl)).trans (by kernel_rfl)
/-! ### warrantor/ask.shapes: function 31 -/
noncomputable def ask_shapes.A : FAnn := { nv := 4, mv := [(4, 12)], ld := [], lst := [], q := [], raw := [] }
noncomputable def ask_shapes.an : Ann := .nil
noncomputable abbrev ask_shapes.c : Code := Try.f31.body.getD .skip
noncomputable def ask_shapes.J (call : Cl) (n : Nat) : Jn (AEnd × H) := realJ Try.prog ask_shapes.A call Try.f31 ask_shapes.an ask_shapes.c n
abbrev ask_shapes.F (call : Cl) (n : Nat) (J : Jn (AEnd × H)) : Prop := JFix Try.prog ask_shapes.A call Try.f31 ask_shapes.an ask_shapes.c n J
def ask_shapes.f (J : Jn (AEnd × H)) (h : H) : Option (AEnd × H) := J [] [] ⟨[], [], [], h⟩
theorem ask_shapes.f_eq {call : Cl} {n : Nat} {J : Jn (AEnd × H)} (hJ : ask_shapes.F call n J) (h : H) : ask_shapes.f J  h =
  let h1 : H := h ++ [.arr [.int .i64 0, .int .i64 0, .str [], .nilFunc, .int .i64 0, .int .i64 0, .str [], .nilFunc, .int .i64 0, .int .i64 0, .str [], .nilFunc, .int .i64 0, .int .i64 0, .str [], .nilFunc, .int .i64 0, .int .i64 0, .str [], .nilFunc, .int .i64 0, .int .i64 0, .str [], .nilFunc, .int .i64 0, .int .i64 0, .str [], .nilFunc, .int .i64 0, .int .i64 0, .str [], .nilFunc, .int .i64 0, .int .i64 0, .str [], .nilFunc, .int .i64 0, .int .i64 0, .str [], .nilFunc, .int .i64 0, .int .i64 0, .str [], .nilFunc] false]
  (mkRows 1 [.int .u8 0] 3 [(0, .int .u8 1), (1, .int .u8 2), (2, .int .u8 3)]).bind fun v2 =>
  (bytesStr h1 v2).bind fun v3 =>
  (mkAgg [.int .i64 0, .int .i64 0, .str [], .nilFunc] [(0, 1, AV.copy (.int .i64 0)), (1, 1, AV.copy (.int .i64 0)), (2, 1, AV.copy v3), (3, 1, AV.copy (.func (.func 36) [] []))]).bind fun v4 =>
  let h5 : H := h1 ++ [.arr [.int .i64 0, .int .i64 0, .str [], .nilFunc] false]
  (stN 4 h5 (.ptr h1.length 0) v4).bind fun p6 =>
  (mkRows 1 [.int .u8 0] 3 [(0, .int .u8 1), (1, .int .u8 4), (2, .int .u8 5)]).bind fun v7 =>
  (bytesStr p6.2 v7).bind fun v8 =>
  (mkAgg [.int .i64 0, .int .i64 0, .str [], .nilFunc] [(0, 1, AV.copy (.int .i64 0)), (1, 1, AV.copy (.int .i64 1048576)), (2, 1, AV.copy v8), (3, 1, AV.copy (.func (.func 37) [] []))]).bind fun v9 =>
  let h10 : H := p6.2 ++ [.arr [.int .i64 0, .int .i64 0, .str [], .nilFunc] false]
  (stN 4 h10 (.ptr p6.2.length 0) v9).bind fun p11 =>
  (mkRows 1 [.int .u8 0] 1 [(0, .int .u8 1)]).bind fun v12 =>
  (bytesStr p11.2 v12).bind fun v13 =>
  (mkAgg [.int .i64 0, .int .i64 0, .str [], .nilFunc] [(0, 1, AV.copy (.int .i64 1)), (1, 1, AV.copy (.int .i64 3)), (2, 1, AV.copy v13), (3, 1, AV.copy (.func (.func 37) [] []))]).bind fun v14 =>
  (mkAgg [.int .i64 0, .int .i64 0, .str [], .nilFunc] [(0, 1, AV.copy (.int .i64 1)), (1, 1, AV.copy (.int .i64 2)), (2, 1, AV.copy v13), (3, 1, AV.copy (.func (.func 37) [] []))]).bind fun v15 =>
  (mkAgg [.int .i64 0, .int .i64 0, .str [], .nilFunc] [(0, 1, AV.copy (.int .i64 1)), (1, 1, AV.copy (.int .i64 3)), (2, 1, AV.copy v13), (3, 1, AV.copy (.func (.func 37) [] []))]).bind fun v16 =>
  (ldAgg 4 p11.2 (.ptr p6.2.length 0)).bind fun v17 =>
  (ldAgg 4 p11.2 (.ptr p6.2.length 0)).bind fun v18 =>
  (ldAgg 4 p11.2 (.ptr h1.length 0)).bind fun v19 =>
  (ldAgg 4 p11.2 (.ptr h1.length 0)).bind fun v20 =>
  (ldAgg 4 p11.2 (.ptr h1.length 0)).bind fun v21 =>
  (ldAgg 4 p11.2 (.ptr h1.length 0)).bind fun v22 =>
  (mkAgg [.int .i64 0, .int .i64 0, .str [], .nilFunc] [(0, 1, AV.copy (.int .i64 0)), (1, 1, AV.copy (.int .i64 0)), (2, 1, AV.copy v13), (3, 1, AV.copy (.func (.func 38) [] []))]).bind fun v23 =>
  (mkAgg [.int .i64 0, .int .i64 0, .str [], .nilFunc, .int .i64 0, .int .i64 0, .str [], .nilFunc, .int .i64 0, .int .i64 0, .str [], .nilFunc, .int .i64 0, .int .i64 0, .str [], .nilFunc, .int .i64 0, .int .i64 0, .str [], .nilFunc, .int .i64 0, .int .i64 0, .str [], .nilFunc, .int .i64 0, .int .i64 0, .str [], .nilFunc, .int .i64 0, .int .i64 0, .str [], .nilFunc, .int .i64 0, .int .i64 0, .str [], .nilFunc, .int .i64 0, .int .i64 0, .str [], .nilFunc, .int .i64 0, .int .i64 0, .str [], .nilFunc] [(4, 4, AV.copy v14), (8, 4, AV.copy v15), (12, 4, AV.copy v16), (16, 4, AV.copy v17), (20, 4, AV.copy v18), (24, 4, AV.copy v19), (28, 4, AV.copy v20), (32, 4, AV.copy v21), (36, 4, AV.copy v22), (40, 4, AV.copy v23)]).bind fun v24 =>
  (stN 44 p11.2 (.ptr h.length 0) v24).bind fun p25 =>
  (resN [(ldAgg 44 p25.2 (.ptr h.length 0)).map AV.copy]).map fun v => (AEnd.ret v, p25.2) := (hJ _ _ _ (by kernel_rfl)).trans (by kernel_rfl)
/-! ### strings.IndexByte: function 32 -/
noncomputable def strings_IndexByte.A : FAnn := { nv := 4, mv := [(1, 0), (1, 1)], ld := [], lst := [], q := [], raw := [] }
noncomputable def strings_IndexByte.an : Ann := .nil
noncomputable abbrev strings_IndexByte.c : Code := Try.f32.body.getD .skip
noncomputable def strings_IndexByte.J (call : Cl) (n : Nat) : Jn (AEnd × H) := realJ Try.prog strings_IndexByte.A call Try.f32 strings_IndexByte.an strings_IndexByte.c n
abbrev strings_IndexByte.F (call : Cl) (n : Nat) (J : Jn (AEnd × H)) : Prop := JFix Try.prog strings_IndexByte.A call Try.f32 strings_IndexByte.an strings_IndexByte.c n J
def strings_IndexByte.f (J : Jn (AEnd × H)) (x0 x1 : AV) (h : H) : Option (AEnd × H) := J [] [] ⟨[(0, x0), (1, x1)], [], [], h⟩
theorem strings_IndexByte.f_eq {call : Cl} {n : Nat} {J : Jn (AEnd × H)} (hJ : strings_IndexByte.F call n J) (x0 x1 : AV) (h : H) : strings_IndexByte.f J x0 x1 h =
  (call 39 [AV.canon x0, AV.canon x1] h).bind fun p1 => retOr p1.1 (fun r2p => some (AEnd.pan r2p, p1.2)) fun r2 =>
  some (AEnd.ret r2, p1.2) := (hJ _ _ _ (by kernel_rfl)).trans (by kernel_rfl)
/-! ### warrantor/warrantorref32.text: function 33 -/
noncomputable def warrantorref32_text.A : FAnn := { nv := 2, mv := [(1, 3)], ld := [], lst := [], q := [], raw := [] }
noncomputable def warrantorref32_text.an : Ann := .nil
noncomputable abbrev warrantorref32_text.c : Code := Try.f33.body.getD .skip
noncomputable def warrantorref32_text.J (call : Cl) (n : Nat) : Jn (AEnd × H) := realJ Try.prog warrantorref32_text.A call Try.f33 warrantorref32_text.an warrantorref32_text.c n
abbrev warrantorref32_text.F (call : Cl) (n : Nat) (J : Jn (AEnd × H)) : Prop := JFix Try.prog warrantorref32_text.A call Try.f33 warrantorref32_text.an warrantorref32_text.c n J
def warrantorref32_text.f (J : Jn (AEnd × H)) (x0 : AV) (h : H) : Option (AEnd × H) := J [] [] ⟨[(0, x0)], [], [], h⟩
theorem warrantorref32_text.f_eq {call : Cl} {n : Nat} {J : Jn (AEnd × H)} (hJ : warrantorref32_text.F call n J) (x0 : AV) (h : H) : warrantorref32_text.f J x0 h =
  (bin .eql x0 (.str [])).bind fun v1 =>
  condV v1 (
    some (AEnd.ret (AV.copy (.bool true)), h)) (
    (call 40 [AV.canon x0] h).bind fun p2 => retOr p2.1 (fun r3p => some (AEnd.pan r3p, p2.2)) fun r3 =>
    some (AEnd.ret (AV.copy r3), p2.2)) := (hJ _ _ _ (by kernel_rfl)).trans (by kernel_rfl)
/-! ### warrantor/warrantorref19.Parse: function 34 -/
noncomputable def warrantorref19_Parse.A : FAnn := { nv := 7, mv := [(6, 0), (10, 0), (10, 2), (12, 0), (12, 2), (13, 0)], ld := [], lst := [], q := [], raw := [] }
noncomputable def warrantorref19_Parse.an : Ann := .mk none .nil (.mk none .nil (.mk none .nil (.mk none (.mk none .nil (.mk none (.mk none (.mk (some [(0, 0), (4, 0), (5, 0)]) .nil (.mk none (.mk none (.mk none .nil (.mk none (.mk none .nil (.mk (some [(0, 0), (4, 0), (5, 0), (6, 0), (17, 0)]) .nil (.mk none .nil (.mk (some [(0, 0), (4, 0), (5, 0), (6, 0), (30, 0)]) .nil .nil)))) .nil)) .nil) .nil)) .nil) .nil)) .nil)))
noncomputable abbrev warrantorref19_Parse.c : Code := Try.f34.body.getD .skip
noncomputable def warrantorref19_Parse.J (call : Cl) (n : Nat) : Jn (AEnd × H) := realJ Try.prog warrantorref19_Parse.A call Try.f34 warrantorref19_Parse.an warrantorref19_Parse.c n
abbrev warrantorref19_Parse.F (call : Cl) (n : Nat) (J : Jn (AEnd × H)) : Prop := JFix Try.prog warrantorref19_Parse.A call Try.f34 warrantorref19_Parse.an warrantorref19_Parse.c n J
def warrantorref19_Parse.f (J : Jn (AEnd × H)) (x0 : AV) (h : H) : Option (AEnd × H) := J [] [] ⟨[(0, x0)], [], [], h⟩
def warrantorref19_Parse.l0 (J : Jn (AEnd × H)) (m0 : Nat) (x0 x4 x5 : AV) (h : H) : Option (AEnd × H) := J [1, 1, 1, 0, 1, 0] [m0] ⟨[(0, x0), (4, x4), (5, x5)], [(0, 0), (4, 0), (5, 0)], [], h⟩
def warrantorref19_Parse.j0 (J : Jn (AEnd × H)) (m0 : Nat) (x0 x4 x5 x6 x17 : AV) (h : H) : Option (AEnd × H) := J [1, 1, 1, 0, 1, 0, 0, 1, 0, 0, 1, 0, 1] [m0] ⟨[(0, x0), (4, x4), (5, x5), (6, x6), (17, x17)], [(0, 0), (4, 0), (5, 0), (6, 0), (17, 0)], [], h⟩
def warrantorref19_Parse.j1 (J : Jn (AEnd × H)) (m0 : Nat) (x0 x4 x5 x6 x30 : AV) (h : H) : Option (AEnd × H) := J [1, 1, 1, 0, 1, 0, 0, 1, 0, 0, 1, 0, 1, 1, 1] [m0] ⟨[(0, x0), (4, x4), (5, x5), (6, x6), (30, x30)], [(0, 0), (4, 0), (5, 0), (6, 0), (30, 0)], [], h⟩
theorem warrantorref19_Parse.f_eq {call : Cl} {n : Nat} {J : Jn (AEnd × H)} (hJ : warrantorref19_Parse.F call n J) (x0 : AV) (h : H) : warrantorref19_Parse.f J x0 h =
  (lnStr x0).bind fun v1 =>
  (bin .neq v1 (.int .i64 16)).bind fun v2 =>
  condV v2 (
    some (AEnd.ret (.tuple [(.int .u64 0), (.bool false)]), h)) (
    warrantorref19_Parse.l0 J n x0 (.int .u64 0) (.int .i64 0) h) := (hJ _ _ _ (by kernel_rfl)).trans (by kernel_rfl)
theorem warrantorref19_Parse.l0_eq {call : Cl} {n : Nat} {J : Jn (AEnd × H)} (hJ : warrantorref19_Parse.F call n J) (m0 : Nat) (x0 x4 x5 : AV) (h : H) : warrantorref19_Parse.l0 J (m0 + 1) x0 x4 x5 h =
  (bin .lss x5 (.int .i64 16)).bind fun v3 =>
  condV v3 (
    (ixStr x0 x5).bind fun v4 =>
    (bin .geq v4 (.int .u8 48)).bind fun v5 =>
    condV v5 (
      (bin .leq v4 (.int .u8 57)).bind fun v6 =>
      warrantorref19_Parse.j0 J m0 x0 x4 x5 v4 v6 h) (
      warrantorref19_Parse.j0 J m0 x0 x4 x5 v4 (.bool false) h)) (
    some (AEnd.ret (.tuple [(AV.copy x4), (.bool true)]), h)) := (hJ _ _ _ (by kernel_rfl)).trans (by kernel_rfl)
theorem warrantorref19_Parse.j0_eq {call : Cl} {n : Nat} {J : Jn (AEnd × H)} (hJ : warrantorref19_Parse.F call n J) (m0 : Nat) (x0 x4 x5 x6 x17 : AV) (h : H) : warrantorref19_Parse.j0 J m0 x0 x4 x5 x6 x17 h =
  condV x17 (
    (bin .mul (.int .u64 16) x4).bind fun v7 =>
    (bin .sub x6 (.int .u8 48)).bind fun v8 =>
    (cvInt .u64 v8).bind fun v9 =>
    (bin .add v7 v9).bind fun v10 =>
    (bin .add x5 (.int .i64 1)).bind fun v11 =>
    warrantorref19_Parse.l0 J m0 x0 v10 v11 h) (
    (bin .geq x6 (.int .u8 97)).bind fun v12 =>
    condV v12 (
      (bin .leq x6 (.int .u8 102)).bind fun v13 =>
      warrantorref19_Parse.j1 J m0 x0 x4 x5 x6 v13 h) (
      warrantorref19_Parse.j1 J m0 x0 x4 x5 x6 (.bool false) h)) := (hJ _ _ _ (by kernel_rfl)).trans (by kernel_rfl)
theorem warrantorref19_Parse.j1_eq {call : Cl} {n : Nat} {J : Jn (AEnd × H)} (hJ : warrantorref19_Parse.F call n J) (m0 : Nat) (x0 x4 x5 x6 x30 : AV) (h : H) : warrantorref19_Parse.j1 J m0 x0 x4 x5 x6 x30 h =
  condV x30 (
    (bin .mul (.int .u64 16) x4).bind fun v14 =>
    (bin .sub x6 (.int .u8 97)).bind fun v15 =>
    (cvInt .u64 v15).bind fun v16 =>
    (bin .add v14 v16).bind fun v17 =>
    (bin .add v17 (.int .u64 10)).bind fun v18 =>
    (bin .add x5 (.int .i64 1)).bind fun v19 =>
    warrantorref19_Parse.l0 J m0 x0 v18 v19 h) (
    some (AEnd.ret (.tuple [(.int .u64 0), (.bool false)]), h)) := (hJ _ _ _ (by kernel_rfl)).trans (by kernel_rfl)
/-! ### warrantor/ask.plain: function 36 -/
noncomputable def ask_plain.A : FAnn := { nv := 4, mv := [(2, 4), (2, 5)], ld := [], lst := [], q := [], raw := [] }
noncomputable def ask_plain.an : Ann := .nil
noncomputable abbrev ask_plain.c : Code := Try.f36.body.getD .skip
noncomputable def ask_plain.J (call : Cl) (n : Nat) : Jn (AEnd × H) := realJ Try.prog ask_plain.A call Try.f36 ask_plain.an ask_plain.c n
abbrev ask_plain.F (call : Cl) (n : Nat) (J : Jn (AEnd × H)) : Prop := JFix Try.prog ask_plain.A call Try.f36 ask_plain.an ask_plain.c n J
def ask_plain.f (J : Jn (AEnd × H)) (x0 : AV) (h : H) : Option (AEnd × H) := J [] [] ⟨[(0, x0)], [], [], h⟩
theorem ask_plain.f_eq {call : Cl} {n : Nat} {J : Jn (AEnd × H)} (hJ : ask_plain.F call n J) (x0 : AV) (h : H) : ask_plain.f J x0 h =
  (lnStr x0).bind fun v1 =>
  (bin .leq v1 (.int .i64 128)).bind fun v2 =>
  condV v2 (
    (call 42 [AV.canon x0, AV.canon (.func (.func 41) [] [])] h).bind fun p3 => retOr p3.1 (fun r4p => some (AEnd.pan r4p, p3.2)) fun r4 =>
    (unOp .not r4).bind fun v5 =>
    some (AEnd.ret (AV.copy v5), p3.2)) (
    some (AEnd.ret (AV.copy (.bool false)), h)) := (hJ _ _ _ (by kernel_rfl)).trans (by kernel_rfl)
/-! ### warrantor/ask.none: function 37 -/
noncomputable def ask_none.A : FAnn := { nv := 2, mv := [(1, 0)], ld := [], lst := [], q := [], raw := [] }
noncomputable def ask_none.an : Ann := .nil
noncomputable abbrev ask_none.c : Code := Try.f37.body.getD .skip
noncomputable def ask_none.J (call : Cl) (n : Nat) : Jn (AEnd × H) := realJ Try.prog ask_none.A call Try.f37 ask_none.an ask_none.c n
abbrev ask_none.F (call : Cl) (n : Nat) (J : Jn (AEnd × H)) : Prop := JFix Try.prog ask_none.A call Try.f37 ask_none.an ask_none.c n J
def ask_none.f (J : Jn (AEnd × H)) (x0 : AV) (h : H) : Option (AEnd × H) := J [] [] ⟨[(0, x0)], [], [], h⟩
theorem ask_none.f_eq {call : Cl} {n : Nat} {J : Jn (AEnd × H)} (hJ : ask_none.F call n J) (x0 : AV) (h : H) : ask_none.f J x0 h =
  (bin .eql x0 (.str [])).bind fun v1 =>
  some (AEnd.ret (AV.copy v1), h) := (hJ _ _ _ (by kernel_rfl)).trans (by kernel_rfl)
/-! ### warrantor/ask.sum: function 38 -/
noncomputable def ask_sum.A : FAnn := { nv := 5, mv := [(1, 0), (2, 0)], ld := [], lst := [], q := [], raw := [] }
noncomputable def ask_sum.an : Ann := .nil
noncomputable abbrev ask_sum.c : Code := Try.f38.body.getD .skip
noncomputable def ask_sum.J (call : Cl) (n : Nat) : Jn (AEnd × H) := realJ Try.prog ask_sum.A call Try.f38 ask_sum.an ask_sum.c n
abbrev ask_sum.F (call : Cl) (n : Nat) (J : Jn (AEnd × H)) : Prop := JFix Try.prog ask_sum.A call Try.f38 ask_sum.an ask_sum.c n J
def ask_sum.f (J : Jn (AEnd × H)) (x0 : AV) (h : H) : Option (AEnd × H) := J [] [] ⟨[(0, x0)], [], [], h⟩
theorem ask_sum.f_eq {call : Cl} {n : Nat} {J : Jn (AEnd × H)} (hJ : ask_sum.F call n J) (x0 : AV) (h : H) : ask_sum.f J x0 h =
  (call 43 [AV.canon x0] h).bind fun p1 => retOr p1.1 (fun r2p => some (AEnd.pan r2p, p1.2)) fun r2 =>
  (exTuple 0 r2).bind fun v3 =>
  (exTuple 1 r2).bind fun v4 =>
  (bin .eql v4 (.int .i64 0)).bind fun v5 =>
  some (AEnd.ret (AV.copy v5), p1.2) := (hJ _ _ _ (by kernel_rfl)).trans (by kernel_rfl)
/-! ### internal/stringslite.IndexByte: function 39 -/
noncomputable def stringslite_IndexByte.A : FAnn := { nv := 4, mv := [(1, 0), (1, 1)], ld := [], lst := [], q := [], raw := [] }
noncomputable def stringslite_IndexByte.an : Ann := .nil
noncomputable abbrev stringslite_IndexByte.c : Code := Try.f39.body.getD .skip
noncomputable def stringslite_IndexByte.J (call : Cl) (n : Nat) : Jn (AEnd × H) := realJ Try.prog stringslite_IndexByte.A call Try.f39 stringslite_IndexByte.an stringslite_IndexByte.c n
abbrev stringslite_IndexByte.F (call : Cl) (n : Nat) (J : Jn (AEnd × H)) : Prop := JFix Try.prog stringslite_IndexByte.A call Try.f39 stringslite_IndexByte.an stringslite_IndexByte.c n J
def stringslite_IndexByte.f (J : Jn (AEnd × H)) (x0 x1 : AV) (h : H) : Option (AEnd × H) := J [] [] ⟨[(0, x0), (1, x1)], [], [], h⟩
theorem stringslite_IndexByte.f_eq {call : Cl} {n : Nat} {J : Jn (AEnd × H)} (hJ : stringslite_IndexByte.F call n J) (x0 x1 : AV) (h : H) : stringslite_IndexByte.f J x0 x1 h =
  (call 44 [AV.canon x0, AV.canon x1] h).bind fun p1 => retOr p1.1 (fun r2p => some (AEnd.pan r2p, p1.2)) fun r2 =>
  some (AEnd.ret r2, p1.2) := (hJ _ _ _ (by kernel_rfl)).trans (by kernel_rfl)
/-! ### warrantor/warrantorref17.Expr: function 40 -/
noncomputable def warrantorref17_Expr.A : FAnn := { nv := 4, mv := [(3, 0), (6, 4)], ld := [], lst := [], q := [], raw := [] }
noncomputable def warrantorref17_Expr.an : Ann := .mk none .nil (.mk none (.mk none .nil (.mk none (.mk none (.mk (some [(0, 0), (3, 0)]) .nil (.mk none (.mk none (.mk none .nil (.mk (some [(0, 0), (3, 0), (19, 0)]) .nil .nil)) .nil) .nil)) .nil) .nil)) .nil)
noncomputable abbrev warrantorref17_Expr.c : Code := Try.f40.body.getD .skip
noncomputable def warrantorref17_Expr.J (call : Cl) (n : Nat) : Jn (AEnd × H) := realJ Try.prog warrantorref17_Expr.A call Try.f40 warrantorref17_Expr.an warrantorref17_Expr.c n
abbrev warrantorref17_Expr.F (call : Cl) (n : Nat) (J : Jn (AEnd × H)) : Prop := JFix Try.prog warrantorref17_Expr.A call Try.f40 warrantorref17_Expr.an warrantorref17_Expr.c n J
def warrantorref17_Expr.f (J : Jn (AEnd × H)) (x0 : AV) (h : H) : Option (AEnd × H) := J [] [] ⟨[(0, x0)], [], [], h⟩
def warrantorref17_Expr.l0 (J : Jn (AEnd × H)) (m0 : Nat) (x0 x3 : AV) (h : H) : Option (AEnd × H) := J [1, 0, 1, 0] [m0] ⟨[(0, x0), (3, x3)], [(0, 0), (3, 0)], [], h⟩
def warrantorref17_Expr.j0 (J : Jn (AEnd × H)) (m0 : Nat) (x0 x3 x19 : AV) (h : H) : Option (AEnd × H) := J [1, 0, 1, 0, 0, 1, 0, 0, 1] [m0] ⟨[(0, x0), (3, x3), (19, x19)], [(0, 0), (3, 0), (19, 0)], [], h⟩
theorem warrantorref17_Expr.f_eq {call : Cl} {n : Nat} {J : Jn (AEnd × H)} (hJ : warrantorref17_Expr.F call n J) (x0 : AV) (h : H) : warrantorref17_Expr.f J x0 h =
  warrantorref17_Expr.l0 J n x0 (.int .i64 0) h := (hJ _ _ _ (by kernel_rfl)).trans (by kernel_rfl)
theorem warrantorref17_Expr.l0_eq {call : Cl} {n : Nat} {J : Jn (AEnd × H)} (hJ : warrantorref17_Expr.F call n J) (m0 : Nat) (x0 x3 : AV) (h : H) : warrantorref17_Expr.l0 J (m0 + 1) x0 x3 h =
  (lnStr x0).bind fun v1 =>
  (bin .lss x3 v1).bind fun v2 =>
  condV v2 (
    (ixStr x0 x3).bind fun v3 =>
    (bin .lss v3 (.int .u8 32)).bind fun v4 =>
    condV v4 (
      warrantorref17_Expr.j0 J m0 x0 x3 (.bool true) h) (
      (ixStr x0 x3).bind fun v5 =>
      (bin .gtr v5 (.int .u8 126)).bind fun v6 =>
      warrantorref17_Expr.j0 J m0 x0 x3 v6 h)) (
    (lnStr x0).bind fun v7 =>
    (bin .geq v7 (.int .i64 1)).bind fun v8 =>
    condV v8 (
      (lnStr x0).bind fun v9 =>
      (bin .leq v9 (.int .i64 128)).bind fun v10 =>
      some (AEnd.ret (AV.copy v10), h)) (
      some (AEnd.ret (AV.copy (.bool false)), h))) := (hJ _ _ _ (by kernel_rfl)).trans (by kernel_rfl)
theorem warrantorref17_Expr.j0_eq {call : Cl} {n : Nat} {J : Jn (AEnd × H)} (hJ : warrantorref17_Expr.F call n J) (m0 : Nat) (x0 x3 x19 : AV) (h : H) : warrantorref17_Expr.j0 J m0 x0 x3 x19 h =
  condV x19 (
    some (AEnd.ret (.bool false), h)) (
    (bin .add x3 (.int .i64 1)).bind fun v11 =>
    warrantorref17_Expr.l0 J m0 x0 v11 h) := (hJ _ _ _ (by kernel_rfl)).trans (by kernel_rfl)
/-! ### warrantor/ask.plain$1: function 41 -/
noncomputable def ask_plain_c1.A : FAnn := { nv := 2, mv := [(1, 3)], ld := [], lst := [], q := [], raw := [] }
noncomputable def ask_plain_c1.an : Ann := .nil
noncomputable abbrev ask_plain_c1.c : Code := Try.f41.body.getD .skip
noncomputable def ask_plain_c1.J (call : Cl) (n : Nat) : Jn (AEnd × H) := realJ Try.prog ask_plain_c1.A call Try.f41 ask_plain_c1.an ask_plain_c1.c n
abbrev ask_plain_c1.F (call : Cl) (n : Nat) (J : Jn (AEnd × H)) : Prop := JFix Try.prog ask_plain_c1.A call Try.f41 ask_plain_c1.an ask_plain_c1.c n J
def ask_plain_c1.f (J : Jn (AEnd × H)) (x0 : AV) (h : H) : Option (AEnd × H) := J [] [] ⟨[(0, x0)], [], [], h⟩
theorem ask_plain_c1.f_eq {call : Cl} {n : Nat} {J : Jn (AEnd × H)} (hJ : ask_plain_c1.F call n J) (x0 : AV) (h : H) : ask_plain_c1.f J x0 h =
  (bin .lss x0 (.int .i32 32)).bind fun v1 =>
  condV v1 (
    some (AEnd.ret (AV.copy (.bool true)), h)) (
    (bin .gtr x0 (.int .i32 126)).bind fun v2 =>
    some (AEnd.ret (AV.copy v2), h)) := (hJ _ _ _ (by kernel_rfl)).trans (by kernel_rfl)
/-! ### strings.ContainsFunc: function 42 -/
noncomputable def strings_ContainsFunc.A : FAnn := { nv := 4, mv := [(1, 0), (1, 1)], ld := [], lst := [], q := [], raw := [] }
noncomputable def strings_ContainsFunc.an : Ann := .nil
noncomputable abbrev strings_ContainsFunc.c : Code := Try.f42.body.getD .skip
noncomputable def strings_ContainsFunc.J (call : Cl) (n : Nat) : Jn (AEnd × H) := realJ Try.prog strings_ContainsFunc.A call Try.f42 strings_ContainsFunc.an strings_ContainsFunc.c n
abbrev strings_ContainsFunc.F (call : Cl) (n : Nat) (J : Jn (AEnd × H)) : Prop := JFix Try.prog strings_ContainsFunc.A call Try.f42 strings_ContainsFunc.an strings_ContainsFunc.c n J
def strings_ContainsFunc.f (J : Jn (AEnd × H)) (x0 x1 : AV) (h : H) : Option (AEnd × H) := J [] [] ⟨[(0, x0), (1, x1)], [], [], h⟩
theorem strings_ContainsFunc.f_eq {call : Cl} {n : Nat} {J : Jn (AEnd × H)} (hJ : strings_ContainsFunc.F call n J) (x0 x1 : AV) (h : H) : strings_ContainsFunc.f J x0 x1 h =
  (call 45 [AV.canon x0, AV.canon x1] h).bind fun p1 => retOr p1.1 (fun r2p => some (AEnd.pan r2p, p1.2)) fun r2 =>
  (bin .geq r2 (.int .i64 0)).bind fun v3 =>
  some (AEnd.ret (AV.copy v3), p1.2) := (hJ _ _ _ (by kernel_rfl)).trans (by kernel_rfl)
/-! ### warrantor/fnv.Parse: function 43 -/
noncomputable def fnv_Parse.A : FAnn := { nv := 7, mv := [(7, 1), (10, 0), (10, 2), (12, 0)], ld := [], lst := [], q := [], raw := [] }
noncomputable def fnv_Parse.an : Ann := .mk none .nil (.mk none .nil (.mk none .nil (.mk none (.mk none .nil (.mk none (.mk none (.mk (some [(0, 0), (4, 0), (11, 0), (12, 0)]) .nil .nil) .nil) .nil)) .nil)))
noncomputable abbrev fnv_Parse.c : Code := Try.f43.body.getD .skip
noncomputable def fnv_Parse.J (call : Cl) (n : Nat) : Jn (AEnd × H) := realJ Try.prog fnv_Parse.A call Try.f43 fnv_Parse.an fnv_Parse.c n
abbrev fnv_Parse.F (call : Cl) (n : Nat) (J : Jn (AEnd × H)) : Prop := JFix Try.prog fnv_Parse.A call Try.f43 fnv_Parse.an fnv_Parse.c n J
def fnv_Parse.f (J : Jn (AEnd × H)) (x0 : AV) (h : H) : Option (AEnd × H) := J [] [] ⟨[(0, x0)], [], [], h⟩
def fnv_Parse.l0 (J : Jn (AEnd × H)) (m0 : Nat) (x0 x4 x11 x12 : AV) (h : H) : Option (AEnd × H) := J [1, 1, 1, 0, 1, 0] [m0] ⟨[(0, x0), (4, x4), (11, x11), (12, x12)], [(0, 0), (4, 0), (11, 0), (12, 0)], [], h⟩
theorem fnv_Parse.f_eq {call : Cl} {n : Nat} {J : Jn (AEnd × H)} (hJ : fnv_Parse.F call n J) (x0 : AV) (h : H) : fnv_Parse.f J x0 h =
  (lnStr x0).bind fun v1 =>
  (bin .neq v1 (.int .i64 16)).bind fun v2 =>
  condV v2 (
    some (AEnd.ret (.tuple [(.int .u64 0), (.int .i64 190)]), h)) (
    (lnStr x0).bind fun v3 =>
    fnv_Parse.l0 J n x0 (.int .u64 0) v3 (.int .i64 0) h) := (hJ _ _ _ (by kernel_rfl)).trans (by kernel_rfl)
theorem fnv_Parse.l0_eq {call : Cl} {n : Nat} {J : Jn (AEnd × H)} (hJ : fnv_Parse.F call n J) (m0 : Nat) (x0 x4 x11 x12 : AV) (h : H) : fnv_Parse.l0 J (m0 + 1) x0 x4 x11 x12 h =
  (bin .lss x12 x11).bind fun v4 =>
  condV v4 (
    (ixStr x0 x12).bind fun v5 =>
    (call 32 [AV.canon (.str [48, 49, 50, 51, 52, 53, 54, 55, 56, 57, 97, 98, 99, 100, 101, 102]), AV.canon v5] h).bind fun p6 => retOr p6.1 (fun r7p => some (AEnd.pan r7p, p6.2)) fun r7 =>
    (bin .lss r7 (.int .i64 0)).bind fun v8 =>
    condV v8 (
      some (AEnd.ret (.tuple [(.int .u64 0), (.int .i64 190)]), p6.2)) (
      (bin .shl x4 (.int .u64 4)).bind fun v9 =>
      (cvInt .u64 r7).bind fun v10 =>
      (bin .or v9 v10).bind fun v11 =>
      (bin .add x12 (.int .i64 1)).bind fun v12 =>
      fnv_Parse.l0 J m0 x0 v11 x11 v12 p6.2)) (
    some (AEnd.ret (.tuple [(AV.copy x4), (.int .i64 0)]), h)) := (hJ _ _ _ (by kernel_rfl)).trans (by kernel_rfl)
/-! ### strings.IndexFunc: function 45 -/
noncomputable def strings_IndexFunc.A : FAnn := { nv := 4, mv := [(1, 0), (1, 1)], ld := [], lst := [], q := [], raw := [] }
noncomputable def strings_IndexFunc.an : Ann := .nil
noncomputable abbrev strings_IndexFunc.c : Code := Try.f45.body.getD .skip
noncomputable def strings_IndexFunc.J (call : Cl) (n : Nat) : Jn (AEnd × H) := realJ Try.prog strings_IndexFunc.A call Try.f45 strings_IndexFunc.an strings_IndexFunc.c n
abbrev strings_IndexFunc.F (call : Cl) (n : Nat) (J : Jn (AEnd × H)) : Prop := JFix Try.prog strings_IndexFunc.A call Try.f45 strings_IndexFunc.an strings_IndexFunc.c n J
def strings_IndexFunc.f (J : Jn (AEnd × H)) (x0 x1 : AV) (h : H) : Option (AEnd × H) := J [] [] ⟨[(0, x0), (1, x1)], [], [], h⟩
theorem strings_IndexFunc.f_eq {call : Cl} {n : Nat} {J : Jn (AEnd × H)} (hJ : strings_IndexFunc.F call n J) (x0 x1 : AV) (h : H) : strings_IndexFunc.f J x0 x1 h =
  (call 46 [AV.canon x0, AV.canon x1, AV.canon (.bool true)] h).bind fun p1 => retOr p1.1 (fun r2p => some (AEnd.pan r2p, p1.2)) fun r2 =>
  some (AEnd.ret r2, p1.2) := (hJ _ _ _ (by kernel_rfl)).trans (by kernel_rfl)
/-! ### strings.indexFunc: function 46 -/
noncomputable def strings_indexFunc.A : FAnn := { nv := 9, mv := [(1, 0), (4, 1), (5, 0)], ld := [], lst := [], q := [], raw := [] }
noncomputable def strings_indexFunc.an : Ann := .mk none .nil (.mk none (.mk none .nil (.mk none (.mk none (.mk (some [(1, 0), (2, 0), (10, 0)]) .nil .nil) .nil) .nil)) .nil)
noncomputable abbrev strings_indexFunc.c : Code := Try.f46.body.getD .skip
noncomputable def strings_indexFunc.J (call : Cl) (n : Nat) : Jn (AEnd × H) := realJ Try.prog strings_indexFunc.A call Try.f46 strings_indexFunc.an strings_indexFunc.c n
abbrev strings_indexFunc.F (call : Cl) (n : Nat) (J : Jn (AEnd × H)) : Prop := JFix Try.prog strings_indexFunc.A call Try.f46 strings_indexFunc.an strings_indexFunc.c n J
def strings_indexFunc.f (J : Jn (AEnd × H)) (x0 x1 x2 : AV) (h : H) : Option (AEnd × H) := J [] [] ⟨[(0, x0), (1, x1), (2, x2)], [], [], h⟩
def strings_indexFunc.l0 (J : Jn (AEnd × H)) (m0 : Nat) (x1 x2 x10 : AV) (h : H) : Option (AEnd × H) := J [1, 0, 1, 0] [m0] ⟨[(1, x1), (2, x2), (10, x10)], [(1, 0), (2, 0), (10, 0)], [], h⟩
theorem strings_indexFunc.f_eq {call : Cl} {n : Nat} {J : Jn (AEnd × H)} (hJ : strings_indexFunc.F call n J) (x0 x1 x2 : AV) (h : H) : strings_indexFunc.f J x0 x1 x2 h =
  (rgStr h x0).bind fun p1 =>
  strings_indexFunc.l0 J n x1 x2 p1.1 p1.2 := (hJ _ _ _ (by kernel_rfl)).trans (by kernel_rfl)
theorem strings_indexFunc.l0_eq {call : Cl} {n : Nat} {J : Jn (AEnd × H)} (hJ : strings_indexFunc.F call n J) (m0 : Nat) (x1 x2 x10 : AV) (h : H) : strings_indexFunc.l0 J (m0 + 1) x1 x2 x10 h =
  (next h x10 true).bind fun p2 =>
  (exTuple 0 p2.1).bind fun v3 =>
  condV v3 (
    (exTuple 1 p2.1).bind fun v4 =>
    (exTuple 2 p2.1).bind fun v5 =>
    (callVal call p2.2 x1 [AV.canon v5]).bind fun p6 => retOr p6.1 (fun r7p => some (AEnd.pan r7p, p6.2)) fun r7 =>
    (binBool .eql r7 x2).bind fun v8 =>
    condV v8 (
      some (AEnd.ret (AV.copy v4), p6.2)) (
      strings_indexFunc.l0 J m0 x1 x2 x10 p6.2)) (
    some (AEnd.ret (.int .i64 (-1)), p2.2)) := (hJ _ _ _ (by kernel_rfl)).trans (by kernel_rfl)
end Go.Proofs.Ytigkhjmlomogmaa
