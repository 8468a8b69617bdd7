/- The functions, as the evaluator sees them: printed by a program. -/
import Derived.Test.YtdlnkfghgbddhaaGreatVa5
import Derived.Test.YtdlnkfghgbddhaaGreatProg
import Derived.Test.YtdlnkfghgbddhaaGreatPJN
set_option linter.all false

open Go Go.Ve Go.Proofs
namespace Go.Proofs.YtdlnkfghgbddhaaGreat
set_option maxRecDepth 100000

/-! ### warrantor/warrantorlaw27.RecChecks: function 3 -/
noncomputable def warrantorlaw27_RecChecks.A : FAnn := { nv := 8, mv := [(4, 19), (4, 28)], ld := [], lst := [], obj := [], q := [14, 16, 17, 18, 19, 20], raw := [] }
noncomputable def warrantorlaw27_RecChecks.an : Ann := .mk none .nil (.mk none (.mk none .nil (.mk (some [(2, 0), (3, 0), (4, 0), (18, 0)]) .nil .nil)) (.mk (some [(2, 0), (3, 0), (4, 0)]) .nil .nil))
noncomputable abbrev warrantorlaw27_RecChecks.c : Code := Tryz.f3.body.getD .skip
noncomputable def warrantorlaw27_RecChecks.J (call : Cl) (n : Nat) : Jn (AEnd × H) := realJ Tryz.prog warrantorlaw27_RecChecks.A call Tryz.f3 warrantorlaw27_RecChecks.an warrantorlaw27_RecChecks.c n
abbrev warrantorlaw27_RecChecks.F (call : Cl) (n : Nat) (J : Jn (AEnd × H)) : Prop := JFix Tryz.prog warrantorlaw27_RecChecks.A call Tryz.f3 warrantorlaw27_RecChecks.an warrantorlaw27_RecChecks.c n J
def warrantorlaw27_RecChecks.f (J : Jn (AEnd × H)) (x0 x1 x2 : AV) (h : H) : Option (AEnd × H) := J [] [] ⟨[(0, x0), (1, x1), (2, x2)], [], [], h⟩
def warrantorlaw27_RecChecks.j1 (J : Jn (AEnd × H)) (x2 x3 x4 x18 : AV) (h : H) : Option (AEnd × H) := J [1, 0, 1] [] ⟨[(2, x2), (3, x3), (4, x4), (18, x18)], [(2, 0), (3, 0), (4, 0), (18, 0)], [], h⟩
def warrantorlaw27_RecChecks.j0 (J : Jn (AEnd × H)) (x2 x3 x4 : AV) (h : H) : Option (AEnd × H) := J [1, 1] [] ⟨[(2, x2), (3, x3), (4, x4)], [(2, 0), (3, 0), (4, 0)], [], h⟩
theorem warrantorlaw27_RecChecks.f_eq {call : Cl} {n : Nat} {J : Jn (AEnd × H)} (hJ : warrantorlaw27_RecChecks.F call n J) (x0 x1 x2 : AV) (h : H) : warrantorlaw27_RecChecks.f J x0 x1 x2 h =
  (bx h (AV.copy x0)).bind fun p1 =>
  (bx p1.2 (AV.copy x1)).bind fun p2 =>
  (ldAgg 10 p2.2 p1.1).bind fun v3 =>
  (call n_warrantorref27_LargeEntry [AV.canon v3] p2.2).bind fun p4 => retOr p4.1 (fun r5p => some (AEnd.pan r5p, p4.2)) fun r5 =>
  condV r5 (
    warrantorlaw27_RecChecks.j1 J  x2 p1.1 p2.1 (.bool true) p4.2) (
    (ldAgg 11 p4.2 p2.1).bind fun v6 =>
    (mkRows 11 [.int .i64 0, .int .u64 0, .int .i64 0, .int .i64 0, .str [], .str [], .int .i64 0, .str [], .int .i64 0, .int .i64 0, .str []] 1 [(0, v6)]).bind fun v7 =>
    (call n_warrantorref27_Large [AV.canon v7, AV.canon (.int .i64 1)] p4.2).bind fun p8 => retOr p8.1 (fun r9p => some (AEnd.pan r9p, p8.2)) fun r9 =>
    condV r9 (
      warrantorlaw27_RecChecks.j1 J  x2 p1.1 p2.1 (.bool true) p8.2) (
      (call n_warrantorref27_Large [AV.canon x2, AV.canon (.int .i64 60)] p8.2).bind fun p10 => retOr p10.1 (fun r11p => some (AEnd.pan r11p, p10.2)) fun r11 =>
      warrantorlaw27_RecChecks.j1 J  x2 p1.1 p2.1 r11 p10.2)) := (hJ _ _ _ (by kernel_rfl)).trans (by kernel_rfl)
theorem warrantorlaw27_RecChecks.j1_eq {call : Cl} {n : Nat} {J : Jn (AEnd × H)} (hJ : warrantorlaw27_RecChecks.F call n J) (x2 x3 x4 x18 : AV) (h : H) : warrantorlaw27_RecChecks.j1 J  x2 x3 x4 x18 h =
  condV x18 (
    (call n_warrantorlaw27_lives [] h).bind fun p12 => retOr p12.1 (fun r13p => some (AEnd.pan r13p, p12.2)) fun r13 =>
    some (AEnd.ret r13, p12.2)) (
    warrantorlaw27_RecChecks.j0 J  x2 x3 x4 h) := (hJ _ _ _ (by kernel_rfl)).trans (by kernel_rfl)
theorem warrantorlaw27_RecChecks.j0_eq {call : Cl} {n : Nat} {J : Jn (AEnd × H)} (hJ : warrantorlaw27_RecChecks.F call n J) (x2 x3 x4 : AV) (h : H) : warrantorlaw27_RecChecks.j0 J  x2 x3 x4 h =
  (ldAgg 11 h x4).bind fun v14 =>
  (call n_rec_Check [AV.canon v14] h).bind fun p15 => retOr p15.1 (fun r16p => some (AEnd.pan r16p, p15.2)) fun r16 =>
  (call n_warrantorlaw27_lives [] p15.2).bind fun p17 => retOr p17.1 (fun _ => none) fun r18 =>
  condV r18 (
    (ldAgg 10 p17.2 x3).bind fun v19 =>
    (call n_rec_Right [AV.canon v19] p17.2).bind fun p20 => retOr p20.1 (fun _ => none) fun r21 =>
    (ldAgg 10 p20.2 x3).bind fun v22 =>
    (call n_warrantorref27_Right [AV.canon v22] p20.2).bind fun p23 => retOr p23.1 (fun _ => none) fun r24 =>
    (binBool .eql r21 r24).bind fun v25 =>
    condV v25 (
      (bin .eql r16 (.int .i64 0)).bind fun v26 =>
      (ldAgg 11 p23.2 x4).bind fun v27 =>
      (call n_warrantorref27_Check [AV.canon v27] p23.2).bind fun p28 => retOr p28.1 (fun _ => none) fun r29 =>
      (binBool .eql v26 r29).bind fun v30 =>
      condV v30 (
        (bin .eql r16 (.int .i64 0)).bind fun v31 =>
        condV v31 (
          (ldAgg 11 p28.2 x4).bind fun v32 =>
          (mkRows 11 [.int .i64 0, .int .u64 0, .int .i64 0, .int .i64 0, .str [], .str [], .int .i64 0, .str [], .int .i64 0, .int .i64 0, .str []] 1 [(0, v32)]).bind fun v33 =>
          (call n_rec_Same [AV.canon x2, AV.canon v33] p28.2).bind fun p34 => retOr p34.1 (fun _ => none) fun r35 =>
          (ldAgg 11 p34.2 x4).bind fun v36 =>
          (mkRows 11 [.int .i64 0, .int .u64 0, .int .i64 0, .int .i64 0, .str [], .str [], .int .i64 0, .str [], .int .i64 0, .int .i64 0, .str []] 1 [(0, v36)]).bind fun v37 =>
          (call n_warrantorref27_Same [AV.canon x2, AV.canon v37] p34.2).bind fun p38 => retOr p38.1 (fun _ => none) fun r39 =>
          (binBool .eql r35 r39).bind fun v40 =>
          some (AEnd.ret (AV.copy v40), p38.2)) (
          (bin .eql r16 (.int .i64 270)).bind fun v41 =>
          condV v41 (
            (ldAgg 11 p28.2 x4).bind fun v42 =>
            (mkRows 11 [.int .i64 0, .int .u64 0, .int .i64 0, .int .i64 0, .str [], .str [], .int .i64 0, .str [], .int .i64 0, .int .i64 0, .str []] 1 [(0, v42)]).bind fun v43 =>
            (call n_rec_Same [AV.canon x2, AV.canon v43] p28.2).bind fun p44 => retOr p44.1 (fun _ => none) fun r45 =>
            (ldAgg 11 p44.2 x4).bind fun v46 =>
            (mkRows 11 [.int .i64 0, .int .u64 0, .int .i64 0, .int .i64 0, .str [], .str [], .int .i64 0, .str [], .int .i64 0, .int .i64 0, .str []] 1 [(0, v46)]).bind fun v47 =>
            (call n_warrantorref27_Same [AV.canon x2, AV.canon v47] p44.2).bind fun p48 => retOr p48.1 (fun _ => none) fun r49 =>
            (binBool .eql r45 r49).bind fun v50 =>
            some (AEnd.ret (AV.copy v50), p48.2)) (
            some (AEnd.ret (AV.copy (.bool false)), p28.2)))) (
        some (AEnd.ret (AV.copy (.bool false)), p28.2))) (
      some (AEnd.ret (AV.copy (.bool false)), p23.2))) (
    some (AEnd.ret (AV.copy (.bool false)), p17.2)) := (hJ _ _ _ (by kernel_rfl)).trans (by kernel_rfl)
/-! ### warrantor/warrantorlaw27.RecPuts: function 4 -/
noncomputable def warrantorlaw27_RecPuts.A : FAnn := { nv := 10, mv := [(7, 0), (7, 3), (8, 3), (9, 0), (9, 11), (9, 15), (9, 16), (9, 21), (9, 22)], ld := [], lst := [], obj := [], q := [20, 24], raw := [] }
noncomputable def warrantorlaw27_RecPuts.an : Ann := .mk none .nil (.mk none (.mk none .nil (.mk (some [(0, 0), (1, 0), (16, 0)]) .nil .nil)) (.mk (some [(0, 0), (1, 0)]) .nil .nil))
noncomputable abbrev warrantorlaw27_RecPuts.c : Code := Tryz.f4.body.getD .skip
noncomputable def warrantorlaw27_RecPuts.J (call : Cl) (n : Nat) : Jn (AEnd × H) := realJ Tryz.prog warrantorlaw27_RecPuts.A call Tryz.f4 warrantorlaw27_RecPuts.an warrantorlaw27_RecPuts.c n
abbrev warrantorlaw27_RecPuts.F (call : Cl) (n : Nat) (J : Jn (AEnd × H)) : Prop := JFix Tryz.prog warrantorlaw27_RecPuts.A call Tryz.f4 warrantorlaw27_RecPuts.an warrantorlaw27_RecPuts.c n J
def warrantorlaw27_RecPuts.f (J : Jn (AEnd × H)) (x0 x1 : AV) (h : H) : Option (AEnd × H) := J [] [] ⟨[(0, x0), (1, x1)], [], [], h⟩
def warrantorlaw27_RecPuts.j1 (J : Jn (AEnd × H)) (x0 x1 x16 : AV) (h : H) : Option (AEnd × H) := J [1, 0, 1] [] ⟨[(0, x0), (1, x1), (16, x16)], [(0, 0), (1, 0), (16, 0)], [], h⟩
def warrantorlaw27_RecPuts.j0 (J : Jn (AEnd × H)) (x0 x1 : AV) (h : H) : Option (AEnd × H) := J [1, 1] [] ⟨[(0, x0), (1, x1)], [(0, 0), (1, 0)], [], h⟩
theorem warrantorlaw27_RecPuts.f_eq {call : Cl} {n : Nat} {J : Jn (AEnd × H)} (hJ : warrantorlaw27_RecPuts.F call n J) (x0 x1 : AV) (h : H) : warrantorlaw27_RecPuts.f J x0 x1 h =
  (call n_warrantorref27_Large [AV.canon x0, AV.canon (.int .i64 520)] h).bind fun p1 => retOr p1.1 (fun r2p => some (AEnd.pan r2p, p1.2)) fun r2 =>
  condV r2 (
    warrantorlaw27_RecPuts.j1 J  x0 x1 (.bool true) p1.2) (
    (lnSl x1).bind fun v3 =>
    (bin .gtr v3 (.int .i64 500)).bind fun v4 =>
    warrantorlaw27_RecPuts.j1 J  x0 x1 v4 p1.2) := (hJ _ _ _ (by kernel_rfl)).trans (by kernel_rfl)
theorem warrantorlaw27_RecPuts.j1_eq {call : Cl} {n : Nat} {J : Jn (AEnd × H)} (hJ : warrantorlaw27_RecPuts.F call n J) (x0 x1 x16 : AV) (h : H) : warrantorlaw27_RecPuts.j1 J  x0 x1 x16 h =
  condV x16 (
    (call n_warrantorlaw27_lives [] h).bind fun p5 => retOr p5.1 (fun r6p => some (AEnd.pan r6p, p5.2)) fun r6 =>
    some (AEnd.ret r6, p5.2)) (
    warrantorlaw27_RecPuts.j0 J  x0 x1 h) := (hJ _ _ _ (by kernel_rfl)).trans (by kernel_rfl)
theorem warrantorlaw27_RecPuts.j0_eq {call : Cl} {n : Nat} {J : Jn (AEnd × H)} (hJ : warrantorlaw27_RecPuts.F call n J) (x0 x1 : AV) (h : H) : warrantorlaw27_RecPuts.j0 J  x0 x1 h =
  (call n_rec_Put [AV.canon x0] h).bind fun p7 => retOr p7.1 (fun r8p => some (AEnd.pan r8p, p7.2)) fun r8 =>
  (exTuple 0 r8).bind fun v9 =>
  (exTuple 1 r8).bind fun v10 =>
  (call n_warrantorlaw27_lives [] p7.2).bind fun p11 => retOr p11.1 (fun r12p => some (AEnd.pan r12p, p11.2)) fun r12 =>
  (unOp .not r12).bind fun v13 =>
  condV v13 (
    some (AEnd.ret (.bool false), p11.2)) (
    (call n_warrantorref27_Batch [AV.canon x0] p11.2).bind fun p14 => retOr p14.1 (fun r15p => some (AEnd.pan r15p, p14.2)) fun r15 =>
    (unOp .not r15).bind fun v16 =>
    condV v16 (
      (bin .eql v10 (.int .i64 270)).bind fun v17 =>
      condV v17 (
        (lnSl v9).bind fun v18 =>
        (bin .eql v18 (.int .i64 0)).bind fun v19 =>
        some (AEnd.ret (AV.copy v19), p14.2)) (
        some (AEnd.ret (AV.copy (.bool false)), p14.2))) (
      (mkRows 1 [.int .u8 0] 0 []).bind fun v20 =>
      (apSlice 1 1 true false p14.2 v20 v9).bind fun v21 =>
      (apSlice 1 1 true true p14.2 v21 x1).bind fun v22 =>
      (call n_rec_Get [AV.canon v22] p14.2).bind fun p23 => retOr p23.1 (fun r24p => some (AEnd.pan r24p, p23.2)) fun r24 =>
      (exTuple 0 r24).bind fun v25 =>
      (exTuple 1 r24).bind fun v26 =>
      (exTuple 2 r24).bind fun v27 =>
      (bin .eql v10 (.int .i64 0)).bind fun v28 =>
      condV v28 (
        (bytesStr p23.2 v9).bind fun v29 =>
        (call n_warrantorref27_Put [AV.canon x0] p23.2).bind fun p30 => retOr p30.1 (fun _ => none) fun r31 =>
        (bytesStr p30.2 r31).bind fun v32 =>
        (bin .eql v29 v32).bind fun v33 =>
        condV v33 (
          (bin .eql v27 (.int .i64 0)).bind fun v34 =>
          condV v34 (
            (lnSl v9).bind fun v35 =>
            (bin .eql v26 v35).bind fun v36 =>
            condV v36 (
              (call n_warrantorref27_Same [AV.canon x0, AV.canon v25] p30.2).bind fun p37 => retOr p37.1 (fun _ => none) fun r38 =>
              some (AEnd.ret (AV.copy r38), p37.2)) (
              some (AEnd.ret (AV.copy (.bool false)), p30.2))) (
            some (AEnd.ret (AV.copy (.bool false)), p30.2))) (
          some (AEnd.ret (AV.copy (.bool false)), p30.2))) (
        some (AEnd.ret (AV.copy (.bool false)), p23.2)))) := (hJ _ _ _ (by kernel_rfl)).trans (by kernel_rfl)
/-! ### warrantor/warrantorlaw27.RecGets: function 5 -/
noncomputable def warrantorlaw27_RecGets.A : FAnn := { nv := 11, mv := [(5, 4), (5, 9), (5, 14), (7, 0), (8, 0), (8, 3), (8, 12), (8, 14), (8, 15)], ld := [], lst := [], obj := [], q := [], raw := [] }
noncomputable def warrantorlaw27_RecGets.an : Ann := .mk none .nil (.mk none .nil (.mk none .nil (.mk none .nil (.mk none (.mk none .nil (.mk (some [(0, 0), (3, 1), (4, 1), (5, 1), (44, 0)]) .nil .nil)) (.mk (some [(0, 0), (3, 1), (4, 1), (5, 1)]) .nil .nil)))))
noncomputable abbrev warrantorlaw27_RecGets.c : Code := Tryz.f5.body.getD .skip
noncomputable def warrantorlaw27_RecGets.J (call : Cl) (n : Nat) : Jn (AEnd × H) := realJ Tryz.prog warrantorlaw27_RecGets.A call Tryz.f5 warrantorlaw27_RecGets.an warrantorlaw27_RecGets.c n
abbrev warrantorlaw27_RecGets.F (call : Cl) (n : Nat) (J : Jn (AEnd × H)) : Prop := JFix Tryz.prog warrantorlaw27_RecGets.A call Tryz.f5 warrantorlaw27_RecGets.an warrantorlaw27_RecGets.c n J
def warrantorlaw27_RecGets.f (J : Jn (AEnd × H)) (x0 : AV) (h : H) : Option (AEnd × H) := J [] [] ⟨[(0, x0)], [], [], h⟩
def warrantorlaw27_RecGets.j1 (J : Jn (AEnd × H)) (x0 x3 x4 x5 x44 : AV) (h : H) : Option (AEnd × H) := J [1, 1, 1, 1, 0, 1] [] ⟨[(0, x0), (3, x3), (4, x4), (5, x5), (44, x44)], [(0, 0), (3, 1), (4, 1), (5, 1), (44, 0)], [], h⟩
def warrantorlaw27_RecGets.j0 (J : Jn (AEnd × H)) (x0 x3 x4 x5 : AV) (h : H) : Option (AEnd × H) := J [1, 1, 1, 1, 1] [] ⟨[(0, x0), (3, x3), (4, x4), (5, x5)], [(0, 0), (3, 1), (4, 1), (5, 1)], [], h⟩
theorem warrantorlaw27_RecGets.f_eq {call : Cl} {n : Nat} {J : Jn (AEnd × H)} (hJ : warrantorlaw27_RecGets.F call n J) (x0 : AV) (h : H) : warrantorlaw27_RecGets.f J x0 h =
  (lnSl x0).bind fun v1 =>
  (bin .gtr v1 (.int .i64 3000)).bind fun v2 =>
  condV v2 (
    (call n_warrantorlaw27_lives [] h).bind fun p3 => retOr p3.1 (fun r4p => some (AEnd.pan r4p, p3.2)) fun r4 =>
    some (AEnd.ret r4, p3.2)) (
    (call n_rec_Get [AV.canon x0] h).bind fun p5 => retOr p5.1 (fun r6p => some (AEnd.pan r6p, p5.2)) fun r6 =>
    (exTuple 0 r6).bind fun v7 =>
    (exTuple 1 r6).bind fun v8 =>
    (exTuple 2 r6).bind fun v9 =>
    (call n_warrantorref27_Get [AV.canon x0] p5.2).bind fun p10 => retOr p10.1 (fun r11p => some (AEnd.pan r11p, p10.2)) fun r11 =>
    (exTuple 0 r11).bind fun v12 =>
    (exTuple 1 r11).bind fun v13 =>
    (exTuple 2 r11).bind fun v14 =>
    (call n_warrantorlaw27_lives [] p10.2).bind fun p15 => retOr p15.1 (fun r16p => some (AEnd.pan r16p, p15.2)) fun r16 =>
    (unOp .not r16).bind fun v17 =>
    condV v17 (
      warrantorlaw27_RecGets.j1 J  x0 v7 v8 v9 (.bool true) p15.2) (
      (bin .neq v8 v13).bind fun v18 =>
      condV v18 (
        warrantorlaw27_RecGets.j1 J  x0 v7 v8 v9 (.bool true) p15.2) (
        (bin .neq v9 v14).bind fun v19 =>
        condV v19 (
          warrantorlaw27_RecGets.j1 J  x0 v7 v8 v9 (.bool true) p15.2) (
          (call n_warrantorref27_Same [AV.canon v7, AV.canon v12] p15.2).bind fun p20 => retOr p20.1 (fun r21p => some (AEnd.pan r21p, p20.2)) fun r21 =>
          (unOp .not r21).bind fun v22 =>
          warrantorlaw27_RecGets.j1 J  x0 v7 v8 v9 v22 p20.2)))) := (hJ _ _ _ (by kernel_rfl)).trans (by kernel_rfl)
theorem warrantorlaw27_RecGets.j1_eq {call : Cl} {n : Nat} {J : Jn (AEnd × H)} (hJ : warrantorlaw27_RecGets.F call n J) (x0 x3 x4 x5 x44 : AV) (h : H) : warrantorlaw27_RecGets.j1 J  x0 x3 x4 x5 x44 h =
  condV x44 (
    some (AEnd.ret (.bool false), h)) (
    warrantorlaw27_RecGets.j0 J  x0 x3 x4 x5 h) := (hJ _ _ _ (by kernel_rfl)).trans (by kernel_rfl)
theorem warrantorlaw27_RecGets.j0_eq {call : Cl} {n : Nat} {J : Jn (AEnd × H)} (hJ : warrantorlaw27_RecGets.F call n J) (x0 x3 x4 x5 : AV) (h : H) : warrantorlaw27_RecGets.j0 J  x0 x3 x4 x5 h =
  (call n_rec_Put [AV.canon x3] h).bind fun p23 => retOr p23.1 (fun r24p => some (AEnd.pan r24p, p23.2)) fun r24 =>
  (exTuple 0 r24).bind fun v25 =>
  (exTuple 1 r24).bind fun v26 =>
  (bin .neq x5 (.int .i64 0)).bind fun v27 =>
  condV v27 (
    some (AEnd.ret (AV.copy (.bool true)), p23.2)) (
    (bin .eql v26 (.int .i64 0)).bind fun v28 =>
    condV v28 (
      (lnSl x0).bind fun v29 =>
      (bin .leq x4 v29).bind fun v30 =>
      condV v30 (
        (bytesStr p23.2 v25).bind fun v31 =>
        (slSlice 1 x0 none (some x4) none).bind fun v32 =>
        (bytesStr p23.2 v32).bind fun v33 =>
        (bin .eql v31 v33).bind fun v34 =>
        some (AEnd.ret (AV.copy v34), p23.2)) (
        some (AEnd.ret (AV.copy (.bool false)), p23.2))) (
      some (AEnd.ret (AV.copy (.bool false)), p23.2))) := (hJ _ _ _ (by kernel_rfl)).trans (by kernel_rfl)
/-! ### warrantor/warrantorlaw27.RecBodies: function 6 -/
noncomputable def warrantorlaw27_RecBodies.A : FAnn := { nv := 9, mv := [(5, 0), (6, 0), (7, 2), (7, 6), (7, 10), (8, 2), (8, 6), (8, 7), (8, 12), (8, 13)], ld := [], lst := [], obj := [], q := [], raw := [] }
noncomputable def warrantorlaw27_RecBodies.an : Ann := .nil
noncomputable abbrev warrantorlaw27_RecBodies.c : Code := Tryz.f6.body.getD .skip
noncomputable def warrantorlaw27_RecBodies.J (call : Cl) (n : Nat) : Jn (AEnd × H) := realJ Tryz.prog warrantorlaw27_RecBodies.A call Tryz.f6 warrantorlaw27_RecBodies.an warrantorlaw27_RecBodies.c n
abbrev warrantorlaw27_RecBodies.F (call : Cl) (n : Nat) (J : Jn (AEnd × H)) : Prop := JFix Tryz.prog warrantorlaw27_RecBodies.A call Tryz.f6 warrantorlaw27_RecBodies.an warrantorlaw27_RecBodies.c n J
def warrantorlaw27_RecBodies.f (J : Jn (AEnd × H)) (x0 : AV) (h : H) : Option (AEnd × H) := J [] [] ⟨[(0, x0)], [], [], h⟩
theorem warrantorlaw27_RecBodies.f_eq {call : Cl} {n : Nat} {J : Jn (AEnd × H)} (hJ : warrantorlaw27_RecBodies.F call n J) (x0 : AV) (h : H) : warrantorlaw27_RecBodies.f J x0 h =
  (lnSl x0).bind fun v1 =>
  (bin .gtr v1 (.int .i64 2000)).bind fun v2 =>
  condV v2 (
    (call n_warrantorlaw27_lives [] h).bind fun p3 => retOr p3.1 (fun r4p => some (AEnd.pan r4p, p3.2)) fun r4 =>
    some (AEnd.ret r4, p3.2)) (
    (call n_warrantorref27_Frame [AV.canon x0] h).bind fun p5 => retOr p5.1 (fun r6p => some (AEnd.pan r6p, p5.2)) fun r6 =>
    (call n_rec_Get [AV.canon r6] p5.2).bind fun p7 => retOr p7.1 (fun r8p => some (AEnd.pan r8p, p7.2)) fun r8 =>
    (exTuple 0 r8).bind fun v9 =>
    (exTuple 1 r8).bind fun v10 =>
    (exTuple 2 r8).bind fun v11 =>
    (call n_warrantorref27_Changes [AV.canon x0] p7.2).bind fun p12 => retOr p12.1 (fun r13p => some (AEnd.pan r13p, p12.2)) fun r13 =>
    (exTuple 0 r13).bind fun v14 =>
    (exTuple 1 r13).bind fun v15 =>
    (unOp .not v15).bind fun v16 =>
    condV v16 (
      (call n_warrantorlaw27_lives [] p12.2).bind fun p17 => retOr p17.1 (fun r18p => some (AEnd.pan r18p, p17.2)) fun r18 =>
      condV r18 (
        (bin .eql v11 (.int .i64 270)).bind fun v19 =>
        condV v19 (
          (bin .eql v10 (.int .i64 0)).bind fun v20 =>
          condV v20 (
            (lnSl v9).bind fun v21 =>
            (bin .eql v21 (.int .i64 0)).bind fun v22 =>
            some (AEnd.ret (AV.copy v22), p17.2)) (
            some (AEnd.ret (AV.copy (.bool false)), p17.2))) (
          some (AEnd.ret (AV.copy (.bool false)), p17.2))) (
        some (AEnd.ret (AV.copy (.bool false)), p17.2))) (
      (call n_warrantorlaw27_lives [] p12.2).bind fun p23 => retOr p23.1 (fun r24p => some (AEnd.pan r24p, p23.2)) fun r24 =>
      condV r24 (
        (bin .eql v11 (.int .i64 0)).bind fun v25 =>
        condV v25 (
          (lnSl r6).bind fun v26 =>
          (bin .eql v10 v26).bind fun v27 =>
          condV v27 (
            (call n_warrantorref27_Same [AV.canon v9, AV.canon v14] p23.2).bind fun p28 => retOr p28.1 (fun r29p => some (AEnd.pan r29p, p28.2)) fun r29 =>
            some (AEnd.ret (AV.copy r29), p28.2)) (
            some (AEnd.ret (AV.copy (.bool false)), p23.2))) (
          some (AEnd.ret (AV.copy (.bool false)), p23.2))) (
        some (AEnd.ret (AV.copy (.bool false)), p23.2)))) := (hJ _ _ _ (by kernel_rfl)).trans (by kernel_rfl)
/-! ### warrantor/warrantorlaw27.RecCuts: function 7 -/
noncomputable def warrantorlaw27_RecCuts.A : FAnn := { nv := 17, mv := [(7, 1), (8, 0), (8, 3), (8, 7), (10, 0), (13, 1), (13, 4), (13, 6), (13, 8), (14, 0)], ld := [], lst := [], obj := [], q := [], raw := [] }
noncomputable def warrantorlaw27_RecCuts.an : Ann := .mk none .nil (.mk none (.mk none .nil (.mk (some [(0, 0), (1, 0), (2, 0), (3, 0), (23, 0)]) .nil .nil)) (.mk (some [(0, 0), (1, 0), (2, 0), (3, 0)]) .nil (.mk none .nil (.mk none (.mk none .nil (.mk (some [(0, 0), (1, 0), (2, 0), (3, 0), (9, 255), (36, 0)]) (.mk none .nil (.mk none .nil (.mk (some [(0, 0), (2, 0), (3, 0), (9, 255), (55, 0)]) .nil .nil))) .nil)) (.mk (some [(0, 0), (2, 0), (3, 0), (9, 255)]) .nil (.mk none (.mk none .nil (.mk (some [(2, 0), (3, 0), (9, 255), (13, 0), (72, 0)]) .nil .nil)) (.mk (some [(2, 0), (3, 0), (9, 255), (13, 0)]) .nil .nil)))))))
noncomputable abbrev warrantorlaw27_RecCuts.c : Code := Tryz.f7.body.getD .skip
noncomputable def warrantorlaw27_RecCuts.J (call : Cl) (n : Nat) : Jn (AEnd × H) := realJ Tryz.prog warrantorlaw27_RecCuts.A call Tryz.f7 warrantorlaw27_RecCuts.an warrantorlaw27_RecCuts.c n
abbrev warrantorlaw27_RecCuts.F (call : Cl) (n : Nat) (J : Jn (AEnd × H)) : Prop := JFix Tryz.prog warrantorlaw27_RecCuts.A call Tryz.f7 warrantorlaw27_RecCuts.an warrantorlaw27_RecCuts.c n J
def warrantorlaw27_RecCuts.f (J : Jn (AEnd × H)) (x0 x1 x2 x3 : AV) (h : H) : Option (AEnd × H) := J [] [] ⟨[(0, x0), (1, x1), (2, x2), (3, x3)], [], [], h⟩
def warrantorlaw27_RecCuts.j1 (J : Jn (AEnd × H)) (x0 x1 x2 x3 x23 : AV) (h : H) : Option (AEnd × H) := J [1, 0, 1] [] ⟨[(0, x0), (1, x1), (2, x2), (3, x3), (23, x23)], [(0, 0), (1, 0), (2, 0), (3, 0), (23, 0)], [], h⟩
def warrantorlaw27_RecCuts.j0 (J : Jn (AEnd × H)) (x0 x1 x2 x3 : AV) (h : H) : Option (AEnd × H) := J [1, 1] [] ⟨[(0, x0), (1, x1), (2, x2), (3, x3)], [(0, 0), (1, 0), (2, 0), (3, 0)], [], h⟩
def warrantorlaw27_RecCuts.j3 (J : Jn (AEnd × H)) (x0 x1 x2 x3 x9 x36 : AV) (h : H) : Option (AEnd × H) := J [1, 1, 1, 1, 0, 1] [] ⟨[(0, x0), (1, x1), (2, x2), (3, x3), (9, x9), (36, x36)], [(0, 0), (1, 0), (2, 0), (3, 0), (9, 255), (36, 0)], [], h⟩
def warrantorlaw27_RecCuts.j4 (J : Jn (AEnd × H)) (x0 x2 x3 x9 x55 : AV) (h : H) : Option (AEnd × H) := J [1, 1, 1, 1, 0, 1, 0, 1, 1] [] ⟨[(0, x0), (2, x2), (3, x3), (9, x9), (55, x55)], [(0, 0), (2, 0), (3, 0), (9, 255), (55, 0)], [], h⟩
def warrantorlaw27_RecCuts.j2 (J : Jn (AEnd × H)) (x0 x2 x3 x9 : AV) (h : H) : Option (AEnd × H) := J [1, 1, 1, 1, 1] [] ⟨[(0, x0), (2, x2), (3, x3), (9, x9)], [(0, 0), (2, 0), (3, 0), (9, 255)], [], h⟩
def warrantorlaw27_RecCuts.j6 (J : Jn (AEnd × H)) (x2 x3 x9 x13 x72 : AV) (h : H) : Option (AEnd × H) := J [1, 1, 1, 1, 1, 1, 0, 1] [] ⟨[(2, x2), (3, x3), (9, x9), (13, x13), (72, x72)], [(2, 0), (3, 0), (9, 255), (13, 0), (72, 0)], [], h⟩
def warrantorlaw27_RecCuts.j5 (J : Jn (AEnd × H)) (x2 x3 x9 x13 : AV) (h : H) : Option (AEnd × H) := J [1, 1, 1, 1, 1, 1, 1] [] ⟨[(2, x2), (3, x3), (9, x9), (13, x13)], [(2, 0), (3, 0), (9, 255), (13, 0)], [], h⟩
theorem warrantorlaw27_RecCuts.f_eq {call : Cl} {n : Nat} {J : Jn (AEnd × H)} (hJ : warrantorlaw27_RecCuts.F call n J) (x0 x1 x2 x3 : AV) (h : H) : warrantorlaw27_RecCuts.f J x0 x1 x2 x3 h =
  (call n_warrantorref27_Large [AV.canon x0, AV.canon (.int .i64 60)] h).bind fun p1 => retOr p1.1 (fun r2p => some (AEnd.pan r2p, p1.2)) fun r2 =>
  condV r2 (
    warrantorlaw27_RecCuts.j1 J  x0 x1 x2 x3 (.bool true) p1.2) (
    (call n_warrantorref27_Batch [AV.canon x0] p1.2).bind fun p3 => retOr p3.1 (fun r4p => some (AEnd.pan r4p, p3.2)) fun r4 =>
    (unOp .not r4).bind fun v5 =>
    warrantorlaw27_RecCuts.j1 J  x0 x1 x2 x3 v5 p3.2) := (hJ _ _ _ (by kernel_rfl)).trans (by kernel_rfl)
theorem warrantorlaw27_RecCuts.j1_eq {call : Cl} {n : Nat} {J : Jn (AEnd × H)} (hJ : warrantorlaw27_RecCuts.F call n J) (x0 x1 x2 x3 x23 : AV) (h : H) : warrantorlaw27_RecCuts.j1 J  x0 x1 x2 x3 x23 h =
  condV x23 (
    (call n_warrantorlaw27_lives [] h).bind fun p6 => retOr p6.1 (fun r7p => some (AEnd.pan r7p, p6.2)) fun r7 =>
    some (AEnd.ret r7, p6.2)) (
    warrantorlaw27_RecCuts.j0 J  x0 x1 x2 x3 h) := (hJ _ _ _ (by kernel_rfl)).trans (by kernel_rfl)
theorem warrantorlaw27_RecCuts.j0_eq {call : Cl} {n : Nat} {J : Jn (AEnd × H)} (hJ : warrantorlaw27_RecCuts.F call n J) (x0 x1 x2 x3 : AV) (h : H) : warrantorlaw27_RecCuts.j0 J  x0 x1 x2 x3 h =
  (call n_warrantorref27_Put [AV.canon x0] h).bind fun p8 => retOr p8.1 (fun r9p => some (AEnd.pan r9p, p8.2)) fun r9 =>
  (call n_warrantorlaw27_lives [] p8.2).bind fun p10 => retOr p10.1 (fun r11p => some (AEnd.pan r11p, p10.2)) fun r11 =>
  (unOp .not r11).bind fun v12 =>
  condV v12 (
    some (AEnd.ret (.bool false), p10.2)) (
    (bin .geq x1 (.int .i64 0)).bind fun v13 =>
    condV v13 (
      (lnSl r9).bind fun v14 =>
      (bin .lss x1 v14).bind fun v15 =>
      warrantorlaw27_RecCuts.j3 J  x0 x1 x2 x3 r9 v15 p10.2) (
      warrantorlaw27_RecCuts.j3 J  x0 x1 x2 x3 r9 (.bool false) p10.2)) := (hJ _ _ _ (by kernel_rfl)).trans (by kernel_rfl)
theorem warrantorlaw27_RecCuts.j3_eq {call : Cl} {n : Nat} {J : Jn (AEnd × H)} (hJ : warrantorlaw27_RecCuts.F call n J) (x0 x1 x2 x3 x9 x36 : AV) (h : H) : warrantorlaw27_RecCuts.j3 J  x0 x1 x2 x3 x9 x36 h =
  condV x36 (
    (slSlice 1 x9 none (some x1) none).bind fun v16 =>
    (call n_rec_Get [AV.canon v16] h).bind fun p17 => retOr p17.1 (fun r18p => some (AEnd.pan r18p, p17.2)) fun r18 =>
    (exTuple 0 r18).bind fun v19 =>
    (exTuple 1 r18).bind fun v20 =>
    (exTuple 2 r18).bind fun v21 =>
    (bin .neq v21 (.int .i64 10)).bind fun v22 =>
    condV v22 (
      warrantorlaw27_RecCuts.j4 J  x0 x2 x3 x9 (.bool true) p17.2) (
      (bin .neq v20 (.int .i64 0)).bind fun v23 =>
      condV v23 (
        warrantorlaw27_RecCuts.j4 J  x0 x2 x3 x9 (.bool true) p17.2) (
        (lnSl v19).bind fun v24 =>
        (bin .neq v24 (.int .i64 0)).bind fun v25 =>
        warrantorlaw27_RecCuts.j4 J  x0 x2 x3 x9 v25 p17.2))) (
    warrantorlaw27_RecCuts.j2 J  x0 x2 x3 x9 h) := (hJ _ _ _ (by kernel_rfl)).trans (by kernel_rfl)
theorem warrantorlaw27_RecCuts.j4_eq {call : Cl} {n : Nat} {J : Jn (AEnd × H)} (hJ : warrantorlaw27_RecCuts.F call n J) (x0 x2 x3 x9 x55 : AV) (h : H) : warrantorlaw27_RecCuts.j4 J  x0 x2 x3 x9 x55 h =
  condV x55 (
    some (AEnd.ret (.bool false), h)) (
    warrantorlaw27_RecCuts.j2 J  x0 x2 x3 x9 h) := (hJ _ _ _ (by kernel_rfl)).trans (by kernel_rfl)
theorem warrantorlaw27_RecCuts.j2_eq {call : Cl} {n : Nat} {J : Jn (AEnd × H)} (hJ : warrantorlaw27_RecCuts.F call n J) (x0 x2 x3 x9 : AV) (h : H) : warrantorlaw27_RecCuts.j2 J  x0 x2 x3 x9 h =
  (call n_warrantorref27_Body [AV.canon x0] h).bind fun p26 => retOr p26.1 (fun r27p => some (AEnd.pan r27p, p26.2)) fun r27 =>
  (lnSl r27).bind fun v28 =>
  (bin .add v28 (.int .i64 4)).bind fun v29 =>
  (bin .mul (.int .i64 8) v29).bind fun v30 =>
  (bin .eql x3 (.int .u32 0)).bind fun v31 =>
  condV v31 (
    warrantorlaw27_RecCuts.j6 J  x2 x3 x9 v30 (.bool true) p26.2) (
    (bin .lss x2 (.int .i64 0)).bind fun v32 =>
    condV v32 (
      warrantorlaw27_RecCuts.j6 J  x2 x3 x9 v30 (.bool true) p26.2) (
      (bin .sub v30 (.int .i64 32)).bind fun v33 =>
      (bin .gtr x2 v33).bind fun v34 =>
      warrantorlaw27_RecCuts.j6 J  x2 x3 x9 v30 v34 p26.2)) := (hJ _ _ _ (by kernel_rfl)).trans (by kernel_rfl)
theorem warrantorlaw27_RecCuts.j6_eq {call : Cl} {n : Nat} {J : Jn (AEnd × H)} (hJ : warrantorlaw27_RecCuts.F call n J) (x2 x3 x9 x13 x72 : AV) (h : H) : warrantorlaw27_RecCuts.j6 J  x2 x3 x9 x13 x72 h =
  condV x72 (
    some (AEnd.ret (.bool true), h)) (
    warrantorlaw27_RecCuts.j5 J  x2 x3 x9 x13 h) := (hJ _ _ _ (by kernel_rfl)).trans (by kernel_rfl)
theorem warrantorlaw27_RecCuts.j5_eq {call : Cl} {n : Nat} {J : Jn (AEnd × H)} (hJ : warrantorlaw27_RecCuts.F call n J) (x2 x3 x9 x13 : AV) (h : H) : warrantorlaw27_RecCuts.j5 J  x2 x3 x9 x13 h =
  (lnSl x9).bind fun v35 =>
  (bin .mul (.int .i64 8) v35).bind fun v36 =>
  (bin .sub v36 x13).bind fun v37 =>
  (bin .add v37 x2).bind fun v38 =>
  (call n_warrantorref03_Turn [AV.canon x9, AV.canon v38, AV.canon x3] h).bind fun p39 => retOr p39.1 (fun r40p => some (AEnd.pan r40p, p39.2)) fun r40 =>
  (call n_rec_Get [AV.canon r40] p39.2).bind fun p41 => retOr p41.1 (fun r42p => some (AEnd.pan r42p, p41.2)) fun r42 =>
  (exTuple 0 r42).bind fun v43 =>
  (exTuple 1 r42).bind fun v44 =>
  (exTuple 2 r42).bind fun v45 =>
  (bin .eql v45 (.int .i64 42)).bind fun v46 =>
  some (AEnd.ret (AV.copy v46), p41.2) := (hJ _ _ _ (by kernel_rfl)).trans (by kernel_rfl)
/-! ### warrantor/warrantorlaw29.JournalPuts: function 8 -/
noncomputable def warrantorlaw29_JournalPuts.A : FAnn := { nv := 13, mv := [(6, 28), (8, 17), (8, 20), (10, 0), (11, 0), (13, 7), (13, 11), (13, 12)], ld := [], lst := [], obj := [], q := [31, 35, 36, 37, 38, 39, 41], raw := [] }
noncomputable def warrantorlaw29_JournalPuts.an : Ann := .mk none .nil (.mk none (.mk none .nil (.mk (some [(2, 0), (3, 0), (18, 0)]) .nil .nil)) (.mk (some [(2, 0), (3, 0)]) .nil (.mk none .nil (.mk none .nil (.mk none (.mk none .nil (.mk (some [(2, 0), (5, 1), (6, 1), (8, 1), (9, 1), (66, 0)]) .nil .nil)) (.mk (some [(2, 0), (5, 1), (6, 1), (8, 1), (9, 1)]) (.mk none .nil (.mk (some [(2, 0), (5, 1), (6, 1), (92, 0)]) .nil .nil)) (.mk (some [(2, 0), (5, 1), (6, 1)]) .nil .nil)))))))
noncomputable abbrev warrantorlaw29_JournalPuts.c : Code := Tryz.f8.body.getD .skip
noncomputable def warrantorlaw29_JournalPuts.J (call : Cl) (n : Nat) : Jn (AEnd × H) := realJ Tryz.prog warrantorlaw29_JournalPuts.A call Tryz.f8 warrantorlaw29_JournalPuts.an warrantorlaw29_JournalPuts.c n
abbrev warrantorlaw29_JournalPuts.F (call : Cl) (n : Nat) (J : Jn (AEnd × H)) : Prop := JFix Tryz.prog warrantorlaw29_JournalPuts.A call Tryz.f8 warrantorlaw29_JournalPuts.an warrantorlaw29_JournalPuts.c n J
def warrantorlaw29_JournalPuts.f (J : Jn (AEnd × H)) (x0 x1 : AV) (h : H) : Option (AEnd × H) := J [] [] ⟨[(0, x0), (1, x1)], [], [], h⟩
def warrantorlaw29_JournalPuts.j1 (J : Jn (AEnd × H)) (x2 x3 x18 : AV) (h : H) : Option (AEnd × H) := J [1, 0, 1] [] ⟨[(2, x2), (3, x3), (18, x18)], [(2, 0), (3, 0), (18, 0)], [], h⟩
def warrantorlaw29_JournalPuts.j0 (J : Jn (AEnd × H)) (x2 x3 : AV) (h : H) : Option (AEnd × H) := J [1, 1] [] ⟨[(2, x2), (3, x3)], [(2, 0), (3, 0)], [], h⟩
def warrantorlaw29_JournalPuts.j3 (J : Jn (AEnd × H)) (x2 x5 x6 x8 x9 x66 : AV) (h : H) : Option (AEnd × H) := J [1, 1, 1, 1, 1, 0, 1] [] ⟨[(2, x2), (5, x5), (6, x6), (8, x8), (9, x9), (66, x66)], [(2, 0), (5, 1), (6, 1), (8, 1), (9, 1), (66, 0)], [], h⟩
def warrantorlaw29_JournalPuts.j2 (J : Jn (AEnd × H)) (x2 x5 x6 x8 x9 : AV) (h : H) : Option (AEnd × H) := J [1, 1, 1, 1, 1, 1] [] ⟨[(2, x2), (5, x5), (6, x6), (8, x8), (9, x9)], [(2, 0), (5, 1), (6, 1), (8, 1), (9, 1)], [], h⟩
def warrantorlaw29_JournalPuts.j5 (J : Jn (AEnd × H)) (x2 x5 x6 x92 : AV) (h : H) : Option (AEnd × H) := J [1, 1, 1, 1, 1, 1, 0, 1] [] ⟨[(2, x2), (5, x5), (6, x6), (92, x92)], [(2, 0), (5, 1), (6, 1), (92, 0)], [], h⟩
def warrantorlaw29_JournalPuts.j4 (J : Jn (AEnd × H)) (x2 x5 x6 : AV) (h : H) : Option (AEnd × H) := J [1, 1, 1, 1, 1, 1, 1] [] ⟨[(2, x2), (5, x5), (6, x6)], [(2, 0), (5, 1), (6, 1)], [], h⟩
theorem warrantorlaw29_JournalPuts.f_eq {call : Cl} {n : Nat} {J : Jn (AEnd × H)} (hJ : warrantorlaw29_JournalPuts.F call n J) (x0 x1 : AV) (h : H) : warrantorlaw29_JournalPuts.f J x0 x1 h =
  (bx h (AV.copy x0)).bind fun p1 =>
  (bx p1.2 (AV.copy x1)).bind fun p2 =>
  (ldAgg 3 p2.2 p1.1).bind fun v3 =>
  (call n_warrantorref29_Large [AV.canon v3] p2.2).bind fun p4 => retOr p4.1 (fun r5p => some (AEnd.pan r5p, p4.2)) fun r5 =>
  condV r5 (
    warrantorlaw29_JournalPuts.j1 J  p1.1 p2.1 (.bool true) p4.2) (
    (ldAgg 3 p4.2 p2.1).bind fun v6 =>
    (call n_warrantorref29_Large [AV.canon v6] p4.2).bind fun p7 => retOr p7.1 (fun r8p => some (AEnd.pan r8p, p7.2)) fun r8 =>
    warrantorlaw29_JournalPuts.j1 J  p1.1 p2.1 r8 p7.2) := (hJ _ _ _ (by kernel_rfl)).trans (by kernel_rfl)
theorem warrantorlaw29_JournalPuts.j1_eq {call : Cl} {n : Nat} {J : Jn (AEnd × H)} (hJ : warrantorlaw29_JournalPuts.F call n J) (x2 x3 x18 : AV) (h : H) : warrantorlaw29_JournalPuts.j1 J  x2 x3 x18 h =
  condV x18 (
    (call n_warrantorlaw29_lives [] h).bind fun p9 => retOr p9.1 (fun r10p => some (AEnd.pan r10p, p9.2)) fun r10 =>
    some (AEnd.ret r10, p9.2)) (
    warrantorlaw29_JournalPuts.j0 J  x2 x3 h) := (hJ _ _ _ (by kernel_rfl)).trans (by kernel_rfl)
theorem warrantorlaw29_JournalPuts.j0_eq {call : Cl} {n : Nat} {J : Jn (AEnd × H)} (hJ : warrantorlaw29_JournalPuts.F call n J) (x2 x3 : AV) (h : H) : warrantorlaw29_JournalPuts.j0 J  x2 x3 h =
  (ldAgg 3 h x2).bind fun v11 =>
  (call n_journal_Put [AV.canon v11] h).bind fun p12 => retOr p12.1 (fun r13p => some (AEnd.pan r13p, p12.2)) fun r13 =>
  (exTuple 0 r13).bind fun v14 =>
  (exTuple 1 r13).bind fun v15 =>
  (ldAgg 3 p12.2 x2).bind fun v16 =>
  (call n_warrantorref29_Check [AV.canon v16] p12.2).bind fun p17 => retOr p17.1 (fun r18p => some (AEnd.pan r18p, p17.2)) fun r18 =>
  (fAddr 0 x2).bind fun v19 =>
  (ldCell p17.2 v19).bind fun v20 =>
  (fAddr 1 x2).bind fun v21 =>
  (ldCell p17.2 v21).bind fun v22 =>
  (call n_journal_Image [AV.canon v20, AV.canon v22] p17.2).bind fun p23 => retOr p23.1 (fun r24p => some (AEnd.pan r24p, p23.2)) fun r24 =>
  (exTuple 0 r24).bind fun v25 =>
  (exTuple 1 r24).bind fun v26 =>
  (call n_warrantorlaw29_lives [] p23.2).bind fun p27 => retOr p27.1 (fun _ => none) fun r28 =>
  (unOp .not r28).bind fun v29 =>
  condV v29 (
    warrantorlaw29_JournalPuts.j3 J  x2 v14 v15 v25 v26 (.bool true) p27.2) (
    (bin .neq v15 r18).bind fun v30 =>
    condV v30 (
      warrantorlaw29_JournalPuts.j3 J  x2 v14 v15 v25 v26 (.bool true) p27.2) (
      (fAddr 1 x2).bind fun v31 =>
      (ldCell p27.2 v31).bind fun v32 =>
      (call n_journal_Stand [AV.canon v32] p27.2).bind fun p33 => retOr p33.1 (fun _ => none) fun r34 =>
      (fAddr 1 x2).bind fun v35 =>
      (ldCell p33.2 v35).bind fun v36 =>
      (call n_warrantorref29_Stand [AV.canon v36] p33.2).bind fun p37 => retOr p37.1 (fun _ => none) fun r38 =>
      (binBool .neq r34 r38).bind fun v39 =>
      condV v39 (
        warrantorlaw29_JournalPuts.j3 J  x2 v14 v15 v25 v26 (.bool true) p37.2) (
        (ldAgg 3 p37.2 x2).bind fun v40 =>
        (ldAgg 3 p37.2 x3).bind fun v41 =>
        (call n_journal_Same [AV.canon v40, AV.canon v41] p37.2).bind fun p42 => retOr p42.1 (fun _ => none) fun r43 =>
        (ldAgg 3 p42.2 x2).bind fun v44 =>
        (ldAgg 3 p42.2 x3).bind fun v45 =>
        (call n_warrantorref29_Same [AV.canon v44, AV.canon v45] p42.2).bind fun p46 => retOr p46.1 (fun _ => none) fun r47 =>
        (binBool .neq r43 r47).bind fun v48 =>
        condV v48 (
          warrantorlaw29_JournalPuts.j3 J  x2 v14 v15 v25 v26 (.bool true) p46.2) (
          (bin .eql v26 (.int .i64 0)).bind fun v49 =>
          (bin .neq r18 (.int .i64 1)).bind fun v50 =>
          (binBool .neq v49 v50).bind fun v51 =>
          warrantorlaw29_JournalPuts.j3 J  x2 v14 v15 v25 v26 v51 p46.2)))) := (hJ _ _ _ (by kernel_rfl)).trans (by kernel_rfl)
theorem warrantorlaw29_JournalPuts.j3_eq {call : Cl} {n : Nat} {J : Jn (AEnd × H)} (hJ : warrantorlaw29_JournalPuts.F call n J) (x2 x5 x6 x8 x9 x66 : AV) (h : H) : warrantorlaw29_JournalPuts.j3 J  x2 x5 x6 x8 x9 x66 h =
  condV x66 (
    some (AEnd.ret (.bool false), h)) (
    warrantorlaw29_JournalPuts.j2 J  x2 x5 x6 x8 x9 h) := (hJ _ _ _ (by kernel_rfl)).trans (by kernel_rfl)
theorem warrantorlaw29_JournalPuts.j2_eq {call : Cl} {n : Nat} {J : Jn (AEnd × H)} (hJ : warrantorlaw29_JournalPuts.F call n J) (x2 x5 x6 x8 x9 : AV) (h : H) : warrantorlaw29_JournalPuts.j2 J  x2 x5 x6 x8 x9 h =
  (bin .eql x9 (.int .i64 0)).bind fun v52 =>
  condV v52 (
    (bytesStr h x8).bind fun v53 =>
    (fAddr 0 x2).bind fun v54 =>
    (ldCell h v54).bind fun v55 =>
    (fAddr 1 x2).bind fun v56 =>
    (ldCell h v56).bind fun v57 =>
    (call n_warrantorref29_Image [AV.canon v55, AV.canon v57] h).bind fun p58 => retOr p58.1 (fun _ => none) fun r59 =>
    (bytesStr p58.2 r59).bind fun v60 =>
    (bin .neq v53 v60).bind fun v61 =>
    condV v61 (
      warrantorlaw29_JournalPuts.j5 J  x2 x5 x6 (.bool true) p58.2) (
      (bin .neq x9 (.int .i64 0)).bind fun v62 =>
      condV v62 (
        (bin .neq x9 (.int .i64 1)).bind fun v63 =>
        condV v63 (
          warrantorlaw29_JournalPuts.j5 J  x2 x5 x6 (.bool true) p58.2) (
          (lnSl x8).bind fun v64 =>
          (bin .gtr v64 (.int .i64 0)).bind fun v65 =>
          warrantorlaw29_JournalPuts.j5 J  x2 x5 x6 v65 p58.2)) (
        warrantorlaw29_JournalPuts.j5 J  x2 x5 x6 (.bool false) p58.2))) (
    (bin .neq x9 (.int .i64 0)).bind fun v66 =>
    condV v66 (
      (bin .neq x9 (.int .i64 1)).bind fun v67 =>
      condV v67 (
        warrantorlaw29_JournalPuts.j5 J  x2 x5 x6 (.bool true) h) (
        (lnSl x8).bind fun v68 =>
        (bin .gtr v68 (.int .i64 0)).bind fun v69 =>
        warrantorlaw29_JournalPuts.j5 J  x2 x5 x6 v69 h)) (
      warrantorlaw29_JournalPuts.j5 J  x2 x5 x6 (.bool false) h)) := (hJ _ _ _ (by kernel_rfl)).trans (by kernel_rfl)
theorem warrantorlaw29_JournalPuts.j5_eq {call : Cl} {n : Nat} {J : Jn (AEnd × H)} (hJ : warrantorlaw29_JournalPuts.F call n J) (x2 x5 x6 x92 : AV) (h : H) : warrantorlaw29_JournalPuts.j5 J  x2 x5 x6 x92 h =
  condV x92 (
    some (AEnd.ret (.bool false), h)) (
    warrantorlaw29_JournalPuts.j4 J  x2 x5 x6 h) := (hJ _ _ _ (by kernel_rfl)).trans (by kernel_rfl)
theorem warrantorlaw29_JournalPuts.j4_eq {call : Cl} {n : Nat} {J : Jn (AEnd × H)} (hJ : warrantorlaw29_JournalPuts.F call n J) (x2 x5 x6 : AV) (h : H) : warrantorlaw29_JournalPuts.j4 J  x2 x5 x6 h =
  (bin .neq x6 (.int .i64 0)).bind fun v70 =>
  condV v70 (
    (lnSl x5).bind fun v71 =>
    (bin .eql v71 (.int .i64 0)).bind fun v72 =>
    some (AEnd.ret (AV.copy v72), h)) (
    (call n_journal_Read [AV.canon x5] h).bind fun p73 => retOr p73.1 (fun r74p => some (AEnd.pan r74p, p73.2)) fun r74 =>
    (exTuple 0 r74).bind fun v75 =>
    (exTuple 1 r74).bind fun v76 =>
    (exTuple 2 r74).bind fun v77 =>
    let h78 : H := p73.2 ++ [.arr [.int .i64 0, .list [] .cap, .list [] .cap] false]
    (stN 3 h78 (.ptr p73.2.length 0) v75).bind fun p79 =>
    (bytesStr p79.2 x5).bind fun v80 =>
    (ldAgg 3 p79.2 x2).bind fun v81 =>
    (call n_warrantorref29_Put [AV.canon v81] p79.2).bind fun p82 => retOr p82.1 (fun _ => none) fun r83 =>
    (bytesStr p82.2 r83).bind fun v84 =>
    (bin .eql v80 v84).bind fun v85 =>
    condV v85 (
      (bin .eql v77 (.int .i64 0)).bind fun v86 =>
      condV v86 (
        (lnSl x5).bind fun v87 =>
        (bin .eql v76 v87).bind fun v88 =>
        condV v88 (
          (ldAgg 3 p82.2 (.ptr p73.2.length 0)).bind fun v89 =>
          (ldAgg 3 p82.2 x2).bind fun v90 =>
          (call n_warrantorref29_Same [AV.canon v89, AV.canon v90] p82.2).bind fun p91 => retOr p91.1 (fun _ => none) fun r92 =>
          some (AEnd.ret (AV.copy r92), p91.2)) (
          some (AEnd.ret (AV.copy (.bool false)), p82.2))) (
        some (AEnd.ret (AV.copy (.bool false)), p82.2))) (
      some (AEnd.ret (AV.copy (.bool false)), p82.2))) := (hJ _ _ _ (by kernel_rfl)).trans (by kernel_rfl)
/-! ### warrantor/warrantorlaw29.JournalReads: function 9 -/
noncomputable def warrantorlaw29_JournalReads.A : FAnn := { nv := 11, mv := [(5, 4), (5, 9), (8, 0), (8, 3), (8, 12), (8, 14), (8, 15)], ld := [], lst := [], obj := [], q := [], raw := [] }
noncomputable def warrantorlaw29_JournalReads.an : Ann := .mk none .nil (.mk none .nil (.mk none .nil (.mk none .nil (.mk none (.mk none .nil (.mk (some [(0, 0), (3, 0), (4, 1), (5, 1), (44, 0)]) .nil .nil)) (.mk (some [(0, 0), (3, 0), (4, 1), (5, 1)]) .nil .nil)))))
noncomputable abbrev warrantorlaw29_JournalReads.c : Code := Tryz.f9.body.getD .skip
noncomputable def warrantorlaw29_JournalReads.J (call : Cl) (n : Nat) : Jn (AEnd × H) := realJ Tryz.prog warrantorlaw29_JournalReads.A call Tryz.f9 warrantorlaw29_JournalReads.an warrantorlaw29_JournalReads.c n
abbrev warrantorlaw29_JournalReads.F (call : Cl) (n : Nat) (J : Jn (AEnd × H)) : Prop := JFix Tryz.prog warrantorlaw29_JournalReads.A call Tryz.f9 warrantorlaw29_JournalReads.an warrantorlaw29_JournalReads.c n J
def warrantorlaw29_JournalReads.f (J : Jn (AEnd × H)) (x0 : AV) (h : H) : Option (AEnd × H) := J [] [] ⟨[(0, x0)], [], [], h⟩
def warrantorlaw29_JournalReads.j1 (J : Jn (AEnd × H)) (x0 x3 x4 x5 x44 : AV) (h : H) : Option (AEnd × H) := J [1, 1, 1, 1, 0, 1] [] ⟨[(0, x0), (3, x3), (4, x4), (5, x5), (44, x44)], [(0, 0), (3, 0), (4, 1), (5, 1), (44, 0)], [], h⟩
def warrantorlaw29_JournalReads.j0 (J : Jn (AEnd × H)) (x0 x3 x4 x5 : AV) (h : H) : Option (AEnd × H) := J [1, 1, 1, 1, 1] [] ⟨[(0, x0), (3, x3), (4, x4), (5, x5)], [(0, 0), (3, 0), (4, 1), (5, 1)], [], h⟩
theorem warrantorlaw29_JournalReads.f_eq {call : Cl} {n : Nat} {J : Jn (AEnd × H)} (hJ : warrantorlaw29_JournalReads.F call n J) (x0 : AV) (h : H) : warrantorlaw29_JournalReads.f J x0 h =
  (lnSl x0).bind fun v1 =>
  (bin .gtr v1 (.int .i64 4000)).bind fun v2 =>
  condV v2 (
    (call n_warrantorlaw29_lives [] h).bind fun p3 => retOr p3.1 (fun r4p => some (AEnd.pan r4p, p3.2)) fun r4 =>
    some (AEnd.ret r4, p3.2)) (
    (call n_journal_Read [AV.canon x0] h).bind fun p5 => retOr p5.1 (fun r6p => some (AEnd.pan r6p, p5.2)) fun r6 =>
    (exTuple 0 r6).bind fun v7 =>
    (exTuple 1 r6).bind fun v8 =>
    (exTuple 2 r6).bind fun v9 =>
    let h10 : H := p5.2 ++ [.arr [.int .i64 0, .list [] .cap, .list [] .cap] false]
    (stN 3 h10 (.ptr p5.2.length 0) v7).bind fun p11 =>
    (call n_warrantorref29_Read [AV.canon x0] p11.2).bind fun p12 => retOr p12.1 (fun r13p => some (AEnd.pan r13p, p12.2)) fun r13 =>
    (exTuple 0 r13).bind fun v14 =>
    (exTuple 1 r13).bind fun v15 =>
    (exTuple 2 r13).bind fun v16 =>
    let h17 : H := p12.2 ++ [.arr [.int .i64 0, .list [] .cap, .list [] .cap] false]
    (stN 3 h17 (.ptr p12.2.length 0) v14).bind fun p18 =>
    (call n_warrantorlaw29_lives [] p18.2).bind fun p19 => retOr p19.1 (fun r20p => some (AEnd.pan r20p, p19.2)) fun r20 =>
    (unOp .not r20).bind fun v21 =>
    condV v21 (
      warrantorlaw29_JournalReads.j1 J  x0 (.ptr p5.2.length 0) v8 v9 (.bool true) p19.2) (
      (bin .neq v8 v15).bind fun v22 =>
      condV v22 (
        warrantorlaw29_JournalReads.j1 J  x0 (.ptr p5.2.length 0) v8 v9 (.bool true) p19.2) (
        (bin .neq v9 v16).bind fun v23 =>
        condV v23 (
          warrantorlaw29_JournalReads.j1 J  x0 (.ptr p5.2.length 0) v8 v9 (.bool true) p19.2) (
          (ldAgg 3 p19.2 (.ptr p5.2.length 0)).bind fun v24 =>
          (ldAgg 3 p19.2 (.ptr p12.2.length 0)).bind fun v25 =>
          (call n_warrantorref29_Same [AV.canon v24, AV.canon v25] p19.2).bind fun p26 => retOr p26.1 (fun r27p => some (AEnd.pan r27p, p26.2)) fun r27 =>
          (unOp .not r27).bind fun v28 =>
          warrantorlaw29_JournalReads.j1 J  x0 (.ptr p5.2.length 0) v8 v9 v28 p26.2)))) := (hJ _ _ _ (by kernel_rfl)).trans (by kernel_rfl)
theorem warrantorlaw29_JournalReads.j1_eq {call : Cl} {n : Nat} {J : Jn (AEnd × H)} (hJ : warrantorlaw29_JournalReads.F call n J) (x0 x3 x4 x5 x44 : AV) (h : H) : warrantorlaw29_JournalReads.j1 J  x0 x3 x4 x5 x44 h =
  condV x44 (
    some (AEnd.ret (.bool false), h)) (
    warrantorlaw29_JournalReads.j0 J  x0 x3 x4 x5 h) := (hJ _ _ _ (by kernel_rfl)).trans (by kernel_rfl)
theorem warrantorlaw29_JournalReads.j0_eq {call : Cl} {n : Nat} {J : Jn (AEnd × H)} (hJ : warrantorlaw29_JournalReads.F call n J) (x0 x3 x4 x5 : AV) (h : H) : warrantorlaw29_JournalReads.j0 J  x0 x3 x4 x5 h =
  (ldAgg 3 h x3).bind fun v29 =>
  (call n_journal_Put [AV.canon v29] h).bind fun p30 => retOr p30.1 (fun r31p => some (AEnd.pan r31p, p30.2)) fun r31 =>
  (exTuple 0 r31).bind fun v32 =>
  (exTuple 1 r31).bind fun v33 =>
  (bin .neq x5 (.int .i64 0)).bind fun v34 =>
  condV v34 (
    some (AEnd.ret (AV.copy (.bool true)), p30.2)) (
    (bin .eql v33 (.int .i64 0)).bind fun v35 =>
    condV v35 (
      (lnSl x0).bind fun v36 =>
      (bin .leq x4 v36).bind fun v37 =>
      condV v37 (
        (bytesStr p30.2 v32).bind fun v38 =>
        (slSlice 1 x0 none (some x4) none).bind fun v39 =>
        (bytesStr p30.2 v39).bind fun v40 =>
        (bin .eql v38 v40).bind fun v41 =>
        some (AEnd.ret (AV.copy v41), p30.2)) (
        some (AEnd.ret (AV.copy (.bool false)), p30.2))) (
      some (AEnd.ret (AV.copy (.bool false)), p30.2))) := (hJ _ _ _ (by kernel_rfl)).trans (by kernel_rfl)
/-! ### warrantor/warrantorlaw29.JournalCuts: function 10 -/
noncomputable def warrantorlaw29_JournalCuts.A : FAnn := { nv := 22, mv := [(8, 0), (10, 0), (11, 0), (12, 6), (14, 3), (14, 7), (16, 1), (16, 2), (16, 5), (18, 0), (20, 0), (21, 0), (21, 3), (21, 4)], ld := [], lst := [], obj := [], q := [], raw := [] }
noncomputable def warrantorlaw29_JournalCuts.an : Ann := .mk none .nil (.mk none (.mk none .nil (.mk (some [(1, 0), (2, 0), (3, 0), (33, 0)]) .nil .nil)) (.mk (some [(1, 0), (2, 0), (3, 0)]) .nil (.mk none .nil (.mk none (.mk none .nil (.mk (some [(1, 0), (2, 0), (3, 0), (7, 255), (8, 0), (51, 0)]) .nil .nil)) (.mk (some [(1, 0), (2, 0), (3, 0), (7, 255), (8, 0)]) .nil (.mk none .nil (.mk none (.mk none (.mk none (.mk (some [(1, 0), (2, 0), (3, 0), (7, 255), (9, 0), (10, 0)]) .nil (.mk (some [(1, 0), (2, 0), (3, 0), (7, 255), (9, 0), (10, 0)]) .nil .nil)) .nil) .nil) (.mk none .nil (.mk none .nil (.mk none (.mk none .nil (.mk (some [(1, 0), (2, 0), (7, 255), (10, 0), (11, 0), (116, 0)]) .nil .nil)) (.mk (some [(1, 0), (2, 0), (7, 255), (10, 0), (11, 0)]) .nil .nil)))))))))))
noncomputable abbrev warrantorlaw29_JournalCuts.c : Code := Tryz.f10.body.getD .skip
noncomputable def warrantorlaw29_JournalCuts.J (call : Cl) (n : Nat) : Jn (AEnd × H) := realJ Tryz.prog warrantorlaw29_JournalCuts.A call Tryz.f10 warrantorlaw29_JournalCuts.an warrantorlaw29_JournalCuts.c n
abbrev warrantorlaw29_JournalCuts.F (call : Cl) (n : Nat) (J : Jn (AEnd × H)) : Prop := JFix Tryz.prog warrantorlaw29_JournalCuts.A call Tryz.f10 warrantorlaw29_JournalCuts.an warrantorlaw29_JournalCuts.c n J
def warrantorlaw29_JournalCuts.f (J : Jn (AEnd × H)) (x0 x1 x2 : AV) (h : H) : Option (AEnd × H) := J [] [] ⟨[(0, x0), (1, x1), (2, x2)], [], [], h⟩
def warrantorlaw29_JournalCuts.j1 (J : Jn (AEnd × H)) (x1 x2 x3 x33 : AV) (h : H) : Option (AEnd × H) := J [1, 0, 1] [] ⟨[(1, x1), (2, x2), (3, x3), (33, x33)], [(1, 0), (2, 0), (3, 0), (33, 0)], [], h⟩
def warrantorlaw29_JournalCuts.j0 (J : Jn (AEnd × H)) (x1 x2 x3 : AV) (h : H) : Option (AEnd × H) := J [1, 1] [] ⟨[(1, x1), (2, x2), (3, x3)], [(1, 0), (2, 0), (3, 0)], [], h⟩
def warrantorlaw29_JournalCuts.j3 (J : Jn (AEnd × H)) (x1 x2 x3 x7 x8 x51 : AV) (h : H) : Option (AEnd × H) := J [1, 1, 1, 1, 0, 1] [] ⟨[(1, x1), (2, x2), (3, x3), (7, x7), (8, x8), (51, x51)], [(1, 0), (2, 0), (3, 0), (7, 255), (8, 0), (51, 0)], [], h⟩
def warrantorlaw29_JournalCuts.j2 (J : Jn (AEnd × H)) (x1 x2 x3 x7 x8 : AV) (h : H) : Option (AEnd × H) := J [1, 1, 1, 1, 1] [] ⟨[(1, x1), (2, x2), (3, x3), (7, x7), (8, x8)], [(1, 0), (2, 0), (3, 0), (7, 255), (8, 0)], [], h⟩
def warrantorlaw29_JournalCuts.l0 (J : Jn (AEnd × H)) (m0 : Nat) (x1 x2 x3 x7 x9 x10 : AV) (h : H) : Option (AEnd × H) := J [1, 1, 1, 1, 1, 1, 1, 0, 0] [m0] ⟨[(1, x1), (2, x2), (3, x3), (7, x7), (9, x9), (10, x10)], [(1, 0), (2, 0), (3, 0), (7, 255), (9, 0), (10, 0)], [], h⟩
def warrantorlaw29_JournalCuts.j4 (J : Jn (AEnd × H)) (m0 : Nat) (x1 x2 x3 x7 x9 x10 : AV) (h : H) : Option (AEnd × H) := J [1, 1, 1, 1, 1, 1, 1, 0, 0, 0, 1] [m0] ⟨[(1, x1), (2, x2), (3, x3), (7, x7), (9, x9), (10, x10)], [(1, 0), (2, 0), (3, 0), (7, 255), (9, 0), (10, 0)], [], h⟩
def warrantorlaw29_JournalCuts.j6 (J : Jn (AEnd × H)) (x1 x2 x7 x10 x11 x116 : AV) (h : H) : Option (AEnd × H) := J [1, 1, 1, 1, 1, 1, 1, 1, 1, 1, 0, 1] [] ⟨[(1, x1), (2, x2), (7, x7), (10, x10), (11, x11), (116, x116)], [(1, 0), (2, 0), (7, 255), (10, 0), (11, 0), (116, 0)], [], h⟩
def warrantorlaw29_JournalCuts.j5 (J : Jn (AEnd × H)) (x1 x2 x7 x10 x11 : AV) (h : H) : Option (AEnd × H) := J [1, 1, 1, 1, 1, 1, 1, 1, 1, 1, 1] [] ⟨[(1, x1), (2, x2), (7, x7), (10, x10), (11, x11)], [(1, 0), (2, 0), (7, 255), (10, 0), (11, 0)], [], h⟩
theorem warrantorlaw29_JournalCuts.f_eq {call : Cl} {n : Nat} {J : Jn (AEnd × H)} (hJ : warrantorlaw29_JournalCuts.F call n J) (x0 x1 x2 : AV) (h : H) : warrantorlaw29_JournalCuts.f J x0 x1 x2 h =
  (bx h (AV.copy x0)).bind fun p1 =>
  (ldAgg 3 p1.2 p1.1).bind fun v2 =>
  (call n_warrantorref29_Large [AV.canon v2] p1.2).bind fun p3 => retOr p3.1 (fun r4p => some (AEnd.pan r4p, p3.2)) fun r4 =>
  condV r4 (
    warrantorlaw29_JournalCuts.j1 J  x1 x2 p1.1 (.bool true) p3.2) (
    (ldAgg 3 p3.2 p1.1).bind fun v5 =>
    (call n_warrantorref29_Check [AV.canon v5] p3.2).bind fun p6 => retOr p6.1 (fun r7p => some (AEnd.pan r7p, p6.2)) fun r7 =>
    (bin .neq r7 (.int .i64 0)).bind fun v8 =>
    condV v8 (
      warrantorlaw29_JournalCuts.j1 J  x1 x2 p1.1 (.bool true) p6.2) (
      (lnSl x2).bind fun v9 =>
      (bin .gtr v9 (.int .i64 300)).bind fun v10 =>
      warrantorlaw29_JournalCuts.j1 J  x1 x2 p1.1 v10 p6.2)) := (hJ _ _ _ (by kernel_rfl)).trans (by kernel_rfl)
theorem warrantorlaw29_JournalCuts.j1_eq {call : Cl} {n : Nat} {J : Jn (AEnd × H)} (hJ : warrantorlaw29_JournalCuts.F call n J) (x1 x2 x3 x33 : AV) (h : H) : warrantorlaw29_JournalCuts.j1 J  x1 x2 x3 x33 h =
  condV x33 (
    (call n_warrantorlaw29_lives [] h).bind fun p11 => retOr p11.1 (fun r12p => some (AEnd.pan r12p, p11.2)) fun r12 =>
    some (AEnd.ret r12, p11.2)) (
    warrantorlaw29_JournalCuts.j0 J  x1 x2 x3 h) := (hJ _ _ _ (by kernel_rfl)).trans (by kernel_rfl)
theorem warrantorlaw29_JournalCuts.j0_eq {call : Cl} {n : Nat} {J : Jn (AEnd × H)} (hJ : warrantorlaw29_JournalCuts.F call n J) (x1 x2 x3 : AV) (h : H) : warrantorlaw29_JournalCuts.j0 J  x1 x2 x3 h =
  (ldAgg 3 h x3).bind fun v13 =>
  (call n_warrantorref29_Put [AV.canon v13] h).bind fun p14 => retOr p14.1 (fun r15p => some (AEnd.pan r15p, p14.2)) fun r15 =>
  (fAddr 0 x3).bind fun v16 =>
  (ldCell p14.2 v16).bind fun v17 =>
  (fAddr 1 x3).bind fun v18 =>
  (ldCell p14.2 v18).bind fun v19 =>
  (call n_warrantorref29_Image [AV.canon v17, AV.canon v19] p14.2).bind fun p20 => retOr p20.1 (fun r21p => some (AEnd.pan r21p, p20.2)) fun r21 =>
  (lnSl r21).bind fun v22 =>
  (bin .lss x1 v22).bind fun v23 =>
  condV v23 (
    warrantorlaw29_JournalCuts.j3 J  x1 x2 x3 r15 v22 (.bool true) p20.2) (
    (lnSl r15).bind fun v24 =>
    (bin .gtr x1 v24).bind fun v25 =>
    warrantorlaw29_JournalCuts.j3 J  x1 x2 x3 r15 v22 v25 p20.2) := (hJ _ _ _ (by kernel_rfl)).trans (by kernel_rfl)
theorem warrantorlaw29_JournalCuts.j3_eq {call : Cl} {n : Nat} {J : Jn (AEnd × H)} (hJ : warrantorlaw29_JournalCuts.F call n J) (x1 x2 x3 x7 x8 x51 : AV) (h : H) : warrantorlaw29_JournalCuts.j3 J  x1 x2 x3 x7 x8 x51 h =
  condV x51 (
    (call n_warrantorlaw29_lives [] h).bind fun p26 => retOr p26.1 (fun r27p => some (AEnd.pan r27p, p26.2)) fun r27 =>
    some (AEnd.ret r27, p26.2)) (
    warrantorlaw29_JournalCuts.j2 J  x1 x2 x3 x7 x8 h) := (hJ _ _ _ (by kernel_rfl)).trans (by kernel_rfl)
theorem warrantorlaw29_JournalCuts.j2_eq {call : Cl} {n : Nat} {J : Jn (AEnd × H)} (hJ : warrantorlaw29_JournalCuts.F call n J) (x1 x2 x3 x7 x8 : AV) (h : H) : warrantorlaw29_JournalCuts.j2 J  x1 x2 x3 x7 x8 h =
  warrantorlaw29_JournalCuts.l0 J n x1 x2 x3 x7 (.int .i64 0) x8 h := (hJ _ _ _ (by kernel_rfl)).trans (by kernel_rfl)
theorem warrantorlaw29_JournalCuts.l0_eq {call : Cl} {n : Nat} {J : Jn (AEnd × H)} (hJ : warrantorlaw29_JournalCuts.F call n J) (m0 : Nat) (x1 x2 x3 x7 x9 x10 : AV) (h : H) : warrantorlaw29_JournalCuts.l0 J (m0 + 1) x1 x2 x3 x7 x9 x10 h =
  (fAddr 2 x3).bind fun v28 =>
  (ldCell h v28).bind fun v29 =>
  (lnSl v29).bind fun v30 =>
  (bin .lss x9 v30).bind fun v31 =>
  condV v31 (
    (fAddr 2 x3).bind fun v32 =>
    (ldCell h v32).bind fun v33 =>
    (ixSlice 1 v33 x9).bind fun v34 =>
    (ldCell h v34).bind fun v35 =>
    (call n_warrantorref27_Put [AV.canon v35] h).bind fun p36 => retOr p36.1 (fun r37p => some (AEnd.pan r37p, p36.2)) fun r37 =>
    (lnSl r37).bind fun v38 =>
    (bin .add x10 v38).bind fun v39 =>
    (bin .leq v39 x1).bind fun v40 =>
    condV v40 (
      warrantorlaw29_JournalCuts.j4 J m0 x1 x2 x3 x7 x9 x10 p36.2) (
      (fAddr 0 x3).bind fun v41 =>
      (ldCell p36.2 v41).bind fun v42 =>
      (fAddr 1 x3).bind fun v43 =>
      (ldCell p36.2 v43).bind fun v44 =>
      (fAddr 2 x3).bind fun v45 =>
      (ldCell p36.2 v45).bind fun v46 =>
      (slSlice 1 v46 none (some x9) none).bind fun v47 =>
      (mkAgg [.int .i64 0, .list [] .cap, .list [] .cap] [(0, 1, AV.copy v42), (1, 1, AV.copy v44), (2, 1, AV.copy v47)]).bind fun v48 =>
      let h49 : H := p36.2 ++ [.arr [.int .i64 0, .list [] .cap, .list [] .cap] false]
      (stN 3 h49 (.ptr p36.2.length 0) v48).bind fun p50 =>
      (slSlice 1 x7 none (some x1) none).bind fun v51 =>
      (call n_journal_Read [AV.canon v51] p50.2).bind fun p52 => retOr p52.1 (fun r53p => some (AEnd.pan r53p, p52.2)) fun r53 =>
      (exTuple 0 r53).bind fun v54 =>
      (exTuple 1 r53).bind fun v55 =>
      (exTuple 2 r53).bind fun v56 =>
      let h57 : H := p52.2 ++ [.arr [.int .i64 0, .list [] .cap, .list [] .cap] false]
      (stN 3 h57 (.ptr p52.2.length 0) v54).bind fun p58 =>
      (call n_warrantorlaw29_lives [] p58.2).bind fun p59 => retOr p59.1 (fun r60p => some (AEnd.pan r60p, p59.2)) fun r60 =>
      (unOp .not r60).bind fun v61 =>
      condV v61 (
        warrantorlaw29_JournalCuts.j6 J  x1 x2 x7 x10 (.ptr p36.2.length 0) (.bool true) p59.2) (
        (bin .neq v56 (.int .i64 0)).bind fun v62 =>
        condV v62 (
          warrantorlaw29_JournalCuts.j6 J  x1 x2 x7 x10 (.ptr p36.2.length 0) (.bool true) p59.2) (
          (bin .neq v55 x10).bind fun v63 =>
          condV v63 (
            warrantorlaw29_JournalCuts.j6 J  x1 x2 x7 x10 (.ptr p36.2.length 0) (.bool true) p59.2) (
            (ldAgg 3 p59.2 (.ptr p52.2.length 0)).bind fun v64 =>
            (ldAgg 3 p59.2 (.ptr p36.2.length 0)).bind fun v65 =>
            (call n_warrantorref29_Same [AV.canon v64, AV.canon v65] p59.2).bind fun p66 => retOr p66.1 (fun r67p => some (AEnd.pan r67p, p66.2)) fun r67 =>
            (unOp .not r67).bind fun v68 =>
            warrantorlaw29_JournalCuts.j6 J  x1 x2 x7 x10 (.ptr p36.2.length 0) v68 p66.2))))) (
    (fAddr 0 x3).bind fun v69 =>
    (ldCell h v69).bind fun v70 =>
    (fAddr 1 x3).bind fun v71 =>
    (ldCell h v71).bind fun v72 =>
    (fAddr 2 x3).bind fun v73 =>
    (ldCell h v73).bind fun v74 =>
    (slSlice 1 v74 none (some x9) none).bind fun v75 =>
    (mkAgg [.int .i64 0, .list [] .cap, .list [] .cap] [(0, 1, AV.copy v70), (1, 1, AV.copy v72), (2, 1, AV.copy v75)]).bind fun v76 =>
    let h77 : H := h ++ [.arr [.int .i64 0, .list [] .cap, .list [] .cap] false]
    (stN 3 h77 (.ptr h.length 0) v76).bind fun p78 =>
    (slSlice 1 x7 none (some x1) none).bind fun v79 =>
    (call n_journal_Read [AV.canon v79] p78.2).bind fun p80 => retOr p80.1 (fun r81p => some (AEnd.pan r81p, p80.2)) fun r81 =>
    (exTuple 0 r81).bind fun v82 =>
    (exTuple 1 r81).bind fun v83 =>
    (exTuple 2 r81).bind fun v84 =>
    let h85 : H := p80.2 ++ [.arr [.int .i64 0, .list [] .cap, .list [] .cap] false]
    (stN 3 h85 (.ptr p80.2.length 0) v82).bind fun p86 =>
    (call n_warrantorlaw29_lives [] p86.2).bind fun p87 => retOr p87.1 (fun r88p => some (AEnd.pan r88p, p87.2)) fun r88 =>
    (unOp .not r88).bind fun v89 =>
    condV v89 (
      warrantorlaw29_JournalCuts.j6 J  x1 x2 x7 x10 (.ptr h.length 0) (.bool true) p87.2) (
      (bin .neq v84 (.int .i64 0)).bind fun v90 =>
      condV v90 (
        warrantorlaw29_JournalCuts.j6 J  x1 x2 x7 x10 (.ptr h.length 0) (.bool true) p87.2) (
        (bin .neq v83 x10).bind fun v91 =>
        condV v91 (
          warrantorlaw29_JournalCuts.j6 J  x1 x2 x7 x10 (.ptr h.length 0) (.bool true) p87.2) (
          (ldAgg 3 p87.2 (.ptr p80.2.length 0)).bind fun v92 =>
          (ldAgg 3 p87.2 (.ptr h.length 0)).bind fun v93 =>
          (call n_warrantorref29_Same [AV.canon v92, AV.canon v93] p87.2).bind fun p94 => retOr p94.1 (fun r95p => some (AEnd.pan r95p, p94.2)) fun r95 =>
          (unOp .not r95).bind fun v96 =>
          warrantorlaw29_JournalCuts.j6 J  x1 x2 x7 x10 (.ptr h.length 0) v96 p94.2)))) := (hJ _ _ _ (by kernel_rfl)).trans (by kernel_rfl)
theorem warrantorlaw29_JournalCuts.j4_eq {call : Cl} {n : Nat} {J : Jn (AEnd × H)} (hJ : warrantorlaw29_JournalCuts.F call n J) (m0 : Nat) (x1 x2 x3 x7 x9 x10 : AV) (h : H) : warrantorlaw29_JournalCuts.j4 J m0 x1 x2 x3 x7 x9 x10 h =
  (fAddr 2 x3).bind fun v97 =>
  (ldCell h v97).bind fun v98 =>
  (ixSlice 1 v98 x9).bind fun v99 =>
  (ldCell h v99).bind fun v100 =>
  (call n_warrantorref27_Put [AV.canon v100] h).bind fun p101 => retOr p101.1 (fun r102p => some (AEnd.pan r102p, p101.2)) fun r102 =>
  (lnSl r102).bind fun v103 =>
  (bin .add x10 v103).bind fun v104 =>
  (bin .add x9 (.int .i64 1)).bind fun v105 =>
  warrantorlaw29_JournalCuts.l0 J m0 x1 x2 x3 x7 v105 v104 p101.2 := (hJ _ _ _ (by kernel_rfl)).trans (by kernel_rfl)
theorem warrantorlaw29_JournalCuts.j6_eq {call : Cl} {n : Nat} {J : Jn (AEnd × H)} (hJ : warrantorlaw29_JournalCuts.F call n J) (x1 x2 x7 x10 x11 x116 : AV) (h : H) : warrantorlaw29_JournalCuts.j6 J  x1 x2 x7 x10 x11 x116 h =
  condV x116 (
    some (AEnd.ret (.bool false), h)) (
    warrantorlaw29_JournalCuts.j5 J  x1 x2 x7 x10 x11 h) := (hJ _ _ _ (by kernel_rfl)).trans (by kernel_rfl)
theorem warrantorlaw29_JournalCuts.j5_eq {call : Cl} {n : Nat} {J : Jn (AEnd × H)} (hJ : warrantorlaw29_JournalCuts.F call n J) (x1 x2 x7 x10 x11 : AV) (h : H) : warrantorlaw29_JournalCuts.j5 J  x1 x2 x7 x10 x11 h =
  (mkRows 1 [.int .u8 0] 0 []).bind fun v106 =>
  (slSlice 1 x7 none (some x1) none).bind fun v107 =>
  (apSlice 1 1 true false h v106 v107).bind fun v108 =>
  (apSlice 1 1 true true h v108 x2).bind fun v109 =>
  (slSlice 1 v109 (some x10) none none).bind fun v110 =>
  (call n_warrantorref27_Get [AV.canon v110] h).bind fun p111 => retOr p111.1 (fun r112p => some (AEnd.pan r112p, p111.2)) fun r112 =>
  (exTuple 0 r112).bind fun v113 =>
  (exTuple 1 r112).bind fun v114 =>
  (exTuple 2 r112).bind fun v115 =>
  (bin .eql v115 (.int .i64 0)).bind fun v116 =>
  condV v116 (
    some (AEnd.ret (.bool true), p111.2)) (
    (call n_journal_Read [AV.canon v109] p111.2).bind fun p117 => retOr p117.1 (fun r118p => some (AEnd.pan r118p, p117.2)) fun r118 =>
    (exTuple 0 r118).bind fun v119 =>
    (exTuple 1 r118).bind fun v120 =>
    (exTuple 2 r118).bind fun v121 =>
    let h122 : H := p117.2 ++ [.arr [.int .i64 0, .list [] .cap, .list [] .cap] false]
    (stN 3 h122 (.ptr p117.2.length 0) v119).bind fun p123 =>
    (bin .eql v121 (.int .i64 0)).bind fun v124 =>
    condV v124 (
      (bin .eql v120 x10).bind fun v125 =>
      condV v125 (
        (ldAgg 3 p123.2 (.ptr p117.2.length 0)).bind fun v126 =>
        (ldAgg 3 p123.2 x11).bind fun v127 =>
        (call n_warrantorref29_Same [AV.canon v126, AV.canon v127] p123.2).bind fun p128 => retOr p128.1 (fun r129p => some (AEnd.pan r129p, p128.2)) fun r129 =>
        some (AEnd.ret (AV.copy r129), p128.2)) (
        some (AEnd.ret (AV.copy (.bool false)), p123.2))) (
      some (AEnd.ret (AV.copy (.bool false)), p123.2))) := (hJ _ _ _ (by kernel_rfl)).trans (by kernel_rfl)
/-! ### warrantor/warrantorlaw29.JournalImages: function 11 -/
noncomputable def warrantorlaw29_JournalImages.A : FAnn := { nv := 12, mv := [(3, 0), (3, 1), (4, 3), (8, 0), (8, 1), (9, 0), (9, 3)], ld := [], lst := [], obj := [], q := [], raw := [] }
noncomputable def warrantorlaw29_JournalImages.an : Ann := .mk none .nil (.mk none (.mk none .nil (.mk (some [(0, 0), (1, 0), (2, 0), (23, 0)]) .nil .nil)) (.mk (some [(0, 0), (1, 0), (2, 0)]) .nil (.mk none (.mk none .nil (.mk (some [(2, 0), (7, 1), (36, 0)]) .nil .nil)) (.mk (some [(2, 0), (7, 1)]) (.mk none .nil (.mk (some [(2, 0), (7, 1), (44, 0)]) .nil .nil)) (.mk (some [(2, 0), (7, 1)]) .nil .nil)))))
noncomputable abbrev warrantorlaw29_JournalImages.c : Code := Tryz.f11.body.getD .skip
noncomputable def warrantorlaw29_JournalImages.J (call : Cl) (n : Nat) : Jn (AEnd × H) := realJ Tryz.prog warrantorlaw29_JournalImages.A call Tryz.f11 warrantorlaw29_JournalImages.an warrantorlaw29_JournalImages.c n
abbrev warrantorlaw29_JournalImages.F (call : Cl) (n : Nat) (J : Jn (AEnd × H)) : Prop := JFix Tryz.prog warrantorlaw29_JournalImages.A call Tryz.f11 warrantorlaw29_JournalImages.an warrantorlaw29_JournalImages.c n J
def warrantorlaw29_JournalImages.f (J : Jn (AEnd × H)) (x0 x1 x2 : AV) (h : H) : Option (AEnd × H) := J [] [] ⟨[(0, x0), (1, x1), (2, x2)], [], [], h⟩
def warrantorlaw29_JournalImages.j1 (J : Jn (AEnd × H)) (x0 x1 x2 x23 : AV) (h : H) : Option (AEnd × H) := J [1, 0, 1] [] ⟨[(0, x0), (1, x1), (2, x2), (23, x23)], [(0, 0), (1, 0), (2, 0), (23, 0)], [], h⟩
def warrantorlaw29_JournalImages.j0 (J : Jn (AEnd × H)) (x0 x1 x2 : AV) (h : H) : Option (AEnd × H) := J [1, 1] [] ⟨[(0, x0), (1, x1), (2, x2)], [(0, 0), (1, 0), (2, 0)], [], h⟩
def warrantorlaw29_JournalImages.j3 (J : Jn (AEnd × H)) (x2 x7 x36 : AV) (h : H) : Option (AEnd × H) := J [1, 1, 1, 0, 1] [] ⟨[(2, x2), (7, x7), (36, x36)], [(2, 0), (7, 1), (36, 0)], [], h⟩
def warrantorlaw29_JournalImages.j2 (J : Jn (AEnd × H)) (x2 x7 : AV) (h : H) : Option (AEnd × H) := J [1, 1, 1, 1] [] ⟨[(2, x2), (7, x7)], [(2, 0), (7, 1)], [], h⟩
def warrantorlaw29_JournalImages.j5 (J : Jn (AEnd × H)) (x2 x7 x44 : AV) (h : H) : Option (AEnd × H) := J [1, 1, 1, 1, 0, 1] [] ⟨[(2, x2), (7, x7), (44, x44)], [(2, 0), (7, 1), (44, 0)], [], h⟩
def warrantorlaw29_JournalImages.j4 (J : Jn (AEnd × H)) (x2 x7 : AV) (h : H) : Option (AEnd × H) := J [1, 1, 1, 1, 1] [] ⟨[(2, x2), (7, x7)], [(2, 0), (7, 1)], [], h⟩
theorem warrantorlaw29_JournalImages.f_eq {call : Cl} {n : Nat} {J : Jn (AEnd × H)} (hJ : warrantorlaw29_JournalImages.F call n J) (x0 x1 x2 : AV) (h : H) : warrantorlaw29_JournalImages.f J x0 x1 x2 h =
  (call n_warrantorref29_LargeEntries [AV.canon x1, AV.canon (.int .i64 60)] h).bind fun p1 => retOr p1.1 (fun r2p => some (AEnd.pan r2p, p1.2)) fun r2 =>
  condV r2 (
    warrantorlaw29_JournalImages.j1 J  x0 x1 x2 (.bool true) p1.2) (
    (call n_warrantorref29_Gen [AV.canon x0] p1.2).bind fun p3 => retOr p3.1 (fun r4p => some (AEnd.pan r4p, p3.2)) fun r4 =>
    (unOp .not r4).bind fun v5 =>
    condV v5 (
      warrantorlaw29_JournalImages.j1 J  x0 x1 x2 (.bool true) p3.2) (
      (call n_warrantorref29_Stand [AV.canon x1] p3.2).bind fun p6 => retOr p6.1 (fun r7p => some (AEnd.pan r7p, p6.2)) fun r7 =>
      (unOp .not r7).bind fun v8 =>
      warrantorlaw29_JournalImages.j1 J  x0 x1 x2 v8 p6.2)) := (hJ _ _ _ (by kernel_rfl)).trans (by kernel_rfl)
theorem warrantorlaw29_JournalImages.j1_eq {call : Cl} {n : Nat} {J : Jn (AEnd × H)} (hJ : warrantorlaw29_JournalImages.F call n J) (x0 x1 x2 x23 : AV) (h : H) : warrantorlaw29_JournalImages.j1 J  x0 x1 x2 x23 h =
  condV x23 (
    (call n_warrantorlaw29_lives [] h).bind fun p9 => retOr p9.1 (fun r10p => some (AEnd.pan r10p, p9.2)) fun r10 =>
    some (AEnd.ret r10, p9.2)) (
    warrantorlaw29_JournalImages.j0 J  x0 x1 x2 h) := (hJ _ _ _ (by kernel_rfl)).trans (by kernel_rfl)
theorem warrantorlaw29_JournalImages.j0_eq {call : Cl} {n : Nat} {J : Jn (AEnd × H)} (hJ : warrantorlaw29_JournalImages.F call n J) (x0 x1 x2 : AV) (h : H) : warrantorlaw29_JournalImages.j0 J  x0 x1 x2 h =
  (call n_journal_Image [AV.canon x0, AV.canon x1] h).bind fun p11 => retOr p11.1 (fun r12p => some (AEnd.pan r12p, p11.2)) fun r12 =>
  (exTuple 0 r12).bind fun v13 =>
  (exTuple 1 r12).bind fun v14 =>
  (call n_warrantorlaw29_lives [] p11.2).bind fun p15 => retOr p15.1 (fun r16p => some (AEnd.pan r16p, p15.2)) fun r16 =>
  (unOp .not r16).bind fun v17 =>
  condV v17 (
    warrantorlaw29_JournalImages.j3 J  x2 v13 (.bool true) p15.2) (
    (bin .neq v14 (.int .i64 0)).bind fun v18 =>
    warrantorlaw29_JournalImages.j3 J  x2 v13 v18 p15.2) := (hJ _ _ _ (by kernel_rfl)).trans (by kernel_rfl)
theorem warrantorlaw29_JournalImages.j3_eq {call : Cl} {n : Nat} {J : Jn (AEnd × H)} (hJ : warrantorlaw29_JournalImages.F call n J) (x2 x7 x36 : AV) (h : H) : warrantorlaw29_JournalImages.j3 J  x2 x7 x36 h =
  condV x36 (
    some (AEnd.ret (.bool false), h)) (
    warrantorlaw29_JournalImages.j2 J  x2 x7 h) := (hJ _ _ _ (by kernel_rfl)).trans (by kernel_rfl)
theorem warrantorlaw29_JournalImages.j2_eq {call : Cl} {n : Nat} {J : Jn (AEnd × H)} (hJ : warrantorlaw29_JournalImages.F call n J) (x2 x7 : AV) (h : H) : warrantorlaw29_JournalImages.j2 J  x2 x7 h =
  (bin .lss x2 (.int .i64 0)).bind fun v19 =>
  condV v19 (
    warrantorlaw29_JournalImages.j5 J  x2 x7 (.bool true) h) (
    (lnSl x7).bind fun v20 =>
    (bin .geq x2 v20).bind fun v21 =>
    warrantorlaw29_JournalImages.j5 J  x2 x7 v21 h) := (hJ _ _ _ (by kernel_rfl)).trans (by kernel_rfl)
theorem warrantorlaw29_JournalImages.j5_eq {call : Cl} {n : Nat} {J : Jn (AEnd × H)} (hJ : warrantorlaw29_JournalImages.F call n J) (x2 x7 x44 : AV) (h : H) : warrantorlaw29_JournalImages.j5 J  x2 x7 x44 h =
  condV x44 (
    some (AEnd.ret (.bool true), h)) (
    warrantorlaw29_JournalImages.j4 J  x2 x7 h) := (hJ _ _ _ (by kernel_rfl)).trans (by kernel_rfl)
theorem warrantorlaw29_JournalImages.j4_eq {call : Cl} {n : Nat} {J : Jn (AEnd × H)} (hJ : warrantorlaw29_JournalImages.F call n J) (x2 x7 : AV) (h : H) : warrantorlaw29_JournalImages.j4 J  x2 x7 h =
  (slSlice 1 x7 none (some x2) none).bind fun v22 =>
  (call n_journal_Read [AV.canon v22] h).bind fun p23 => retOr p23.1 (fun r24p => some (AEnd.pan r24p, p23.2)) fun r24 =>
  (exTuple 0 r24).bind fun v25 =>
  (exTuple 1 r24).bind fun v26 =>
  (exTuple 2 r24).bind fun v27 =>
  let h28 : H := p23.2 ++ [.arr [.int .i64 0, .list [] .cap, .list [] .cap] false]
  (stN 3 h28 (.ptr p23.2.length 0) v25).bind fun p29 =>
  (bin .eql v27 (.int .i64 290)).bind fun v30 =>
  condV v30 (
    (bin .eql v26 (.int .i64 0)).bind fun v31 =>
    condV v31 (
      (ldAgg 3 p29.2 (.ptr p23.2.length 0)).bind fun v32 =>
      (mkAgg [.int .i64 0, .list [] .cap, .list [] .cap] []).bind fun v33 =>
      (call n_warrantorref29_Same [AV.canon v32, AV.canon v33] p29.2).bind fun p34 => retOr p34.1 (fun r35p => some (AEnd.pan r35p, p34.2)) fun r35 =>
      some (AEnd.ret (AV.copy r35), p34.2)) (
      some (AEnd.ret (AV.copy (.bool false)), p29.2))) (
    some (AEnd.ret (AV.copy (.bool false)), p29.2)) := (hJ _ _ _ (by kernel_rfl)).trans (by kernel_rfl)
/-! ### warrantor/warrantorref27.LargeEntry: function 12 -/
noncomputable def warrantorref27_LargeEntry.A : FAnn := { nv := 2, mv := [], ld := [], lst := [], obj := [], q := [], raw := [] }
noncomputable def warrantorref27_LargeEntry.an : Ann := .nil
noncomputable abbrev warrantorref27_LargeEntry.c : Code := Tryz.f12.body.getD .skip
noncomputable def warrantorref27_LargeEntry.J (call : Cl) (n : Nat) : Jn (AEnd × H) := realJ Tryz.prog warrantorref27_LargeEntry.A call Tryz.f12 warrantorref27_LargeEntry.an warrantorref27_LargeEntry.c n
abbrev warrantorref27_LargeEntry.F (call : Cl) (n : Nat) (J : Jn (AEnd × H)) : Prop := JFix Tryz.prog warrantorref27_LargeEntry.A call Tryz.f12 warrantorref27_LargeEntry.an warrantorref27_LargeEntry.c n J
def warrantorref27_LargeEntry.f (J : Jn (AEnd × H)) (x0 : AV) (h : H) : Option (AEnd × H) := J [] [] ⟨[(0, x0)], [], [], h⟩
theorem warrantorref27_LargeEntry.f_eq {call : Cl} {n : Nat} {J : Jn (AEnd × H)} (hJ : warrantorref27_LargeEntry.F call n J) (x0 : AV) (h : H) : warrantorref27_LargeEntry.f J x0 h =
  (bx h (AV.copy x0)).bind fun p1 =>
  (fAddr 1 p1.1).bind fun v2 =>
  (ldAgg 6 p1.2 v2).bind fun v3 =>
  (mkRows 6 [.int .i64 0, .int .i64 0, .str [], .str [], .int .i64 0, .str []] 1 [(0, v3)]).bind fun v4 =>
  (call n_warrantorref17_Large [AV.canon v4] p1.2).bind fun p5 => retOr p5.1 (fun r6p => some (AEnd.pan r6p, p5.2)) fun r6 =>
  condV r6 (
    some (AEnd.ret (AV.copy (.bool true)), p5.2)) (
    (fAddr 9 p1.1).bind fun v7 =>
    (ldCell p5.2 v7).bind fun v8 =>
    (lnStr v8).bind fun v9 =>
    (bin .gtr v9 (.int .i64 200)).bind fun v10 =>
    some (AEnd.ret (AV.copy v10), p5.2)) := (hJ _ _ _ (by kernel_rfl)).trans (by kernel_rfl)
/-! ### warrantor/warrantorref27.Large: function 13 -/
noncomputable def warrantorref27_Large.A : FAnn := { nv := 6, mv := [(1, 2), (5, 0)], ld := [], lst := [], obj := [], q := [], raw := [] }
noncomputable def warrantorref27_Large.an : Ann := .mk none .nil (.mk none .nil (.mk none (.mk none .nil (.mk none (.mk none (.mk (some [(0, 0), (5, 0)]) .nil .nil) .nil) .nil)) .nil))
noncomputable abbrev warrantorref27_Large.c : Code := Tryz.f13.body.getD .skip
noncomputable def warrantorref27_Large.J (call : Cl) (n : Nat) : Jn (AEnd × H) := realJ Tryz.prog warrantorref27_Large.A call Tryz.f13 warrantorref27_Large.an warrantorref27_Large.c n
abbrev warrantorref27_Large.F (call : Cl) (n : Nat) (J : Jn (AEnd × H)) : Prop := JFix Tryz.prog warrantorref27_Large.A call Tryz.f13 warrantorref27_Large.an warrantorref27_Large.c n J
def warrantorref27_Large.f (J : Jn (AEnd × H)) (x0 x1 : AV) (h : H) : Option (AEnd × H) := J [] [] ⟨[(0, x0), (1, x1)], [], [], h⟩
def warrantorref27_Large.l0 (J : Jn (AEnd × H)) (m0 : Nat) (x0 x5 : AV) (h : H) : Option (AEnd × H) := J [1, 1, 0, 1, 0] [m0] ⟨[(0, x0), (5, x5)], [(0, 0), (5, 0)], [], h⟩
theorem warrantorref27_Large.f_eq {call : Cl} {n : Nat} {J : Jn (AEnd × H)} (hJ : warrantorref27_Large.F call n J) (x0 x1 : AV) (h : H) : warrantorref27_Large.f J x0 x1 h =
  (lnSl x0).bind fun v1 =>
  (bin .gtr v1 x1).bind fun v2 =>
  condV v2 (
    some (AEnd.ret (.bool true), h)) (
    warrantorref27_Large.l0 J n x0 (.int .i64 0) h) := (hJ _ _ _ (by kernel_rfl)).trans (by kernel_rfl)
theorem warrantorref27_Large.l0_eq {call : Cl} {n : Nat} {J : Jn (AEnd × H)} (hJ : warrantorref27_Large.F call n J) (m0 : Nat) (x0 x5 : AV) (h : H) : warrantorref27_Large.l0 J (m0 + 1) x0 x5 h =
  (lnSl x0).bind fun v3 =>
  (bin .lss x5 v3).bind fun v4 =>
  condV v4 (
    (ixSlice 11 x0 x5).bind fun v5 =>
    (fAddr 1 v5).bind fun v6 =>
    (ldAgg 10 h v6).bind fun v7 =>
    (call n_warrantorref27_LargeEntry [AV.canon v7] h).bind fun p8 => retOr p8.1 (fun r9p => some (AEnd.pan r9p, p8.2)) fun r9 =>
    condV r9 (
      some (AEnd.ret (.bool true), p8.2)) (
      (bin .add x5 (.int .i64 1)).bind fun v10 =>
      warrantorref27_Large.l0 J m0 x0 v10 p8.2)) (
    some (AEnd.ret (.bool false), h)) := (hJ _ _ _ (by kernel_rfl)).trans (by kernel_rfl)
/-! ### warrantor/warrantorlaw27.lives: function 14 -/
noncomputable def warrantorlaw27_lives.A : FAnn := { nv := 14, mv := [(9, 0), (9, 8), (9, 14), (9, 18), (9, 27), (9, 31), (9, 56), (9, 57)], ld := [], lst := [], obj := [], q := [], raw := [] }
noncomputable def warrantorlaw27_lives.an : Ann := .nil
noncomputable abbrev warrantorlaw27_lives.c : Code := Tryz.f14.body.getD .skip
noncomputable def warrantorlaw27_lives.J (call : Cl) (n : Nat) : Jn (AEnd × H) := realJ Tryz.prog warrantorlaw27_lives.A call Tryz.f14 warrantorlaw27_lives.an warrantorlaw27_lives.c n
abbrev warrantorlaw27_lives.F (call : Cl) (n : Nat) (J : Jn (AEnd × H)) : Prop := JFix Tryz.prog warrantorlaw27_lives.A call Tryz.f14 warrantorlaw27_lives.an warrantorlaw27_lives.c n J
def warrantorlaw27_lives.f (J : Jn (AEnd × H)) (h : H) : Option (AEnd × H) := J [] [] ⟨[], [], [], h⟩
theorem warrantorlaw27_lives.f_eq {call : Cl} {n : Nat} {J : Jn (AEnd × H)} (hJ : warrantorlaw27_lives.F call n J) (h : H) : warrantorlaw27_lives.f J  h =
  (mkAgg [.int .u64 0, .int .i64 0, .int .i64 0, .str [], .str [], .int .i64 0, .str [], .int .i64 0, .int .i64 0, .str []] [(0, 1, AV.copy (.int .u64 7))]).bind fun v1 =>
  (mkAgg [.int .i64 0, .int .u64 0, .int .i64 0, .int .i64 0, .str [], .str [], .int .i64 0, .str [], .int .i64 0, .int .i64 0, .str []] [(0, 1, AV.copy (.int .i64 4)), (1, 10, AV.copy v1)]).bind fun v2 =>
  (mkRows 11 [.int .i64 0, .int .u64 0, .int .i64 0, .int .i64 0, .str [], .str [], .int .i64 0, .str [], .int .i64 0, .int .i64 0, .str []] 1 [(0, v2)]).bind fun v3 =>
  (call n_rec_Put [AV.canon v3] h).bind fun p4 => retOr p4.1 (fun r5p => some (AEnd.pan r5p, p4.2)) fun r5 =>
  (exTuple 0 r5).bind fun v6 =>
  (exTuple 1 r5).bind fun v7 =>
  (mkRows 1 [.int .u8 0] 0 []).bind fun v8 =>
  (apSlice 1 1 true false p4.2 v8 v6).bind fun v9 =>
  (mkRows 1 [.int .u8 0] 1 [(0, .int .u8 9)]).bind fun v10 =>
  (apSlice 1 1 true true p4.2 v9 v10).bind fun v11 =>
  (call n_rec_Get [AV.canon v11] p4.2).bind fun p12 => retOr p12.1 (fun r13p => some (AEnd.pan r13p, p12.2)) fun r13 =>
  (exTuple 0 r13).bind fun v14 =>
  (exTuple 1 r13).bind fun v15 =>
  (exTuple 2 r13).bind fun v16 =>
  (call n_rec_Put [AV.canon (.list [] .cap)] p12.2).bind fun p17 => retOr p17.1 (fun r18p => some (AEnd.pan r18p, p17.2)) fun r18 =>
  (exTuple 0 r18).bind fun v19 =>
  (exTuple 1 r18).bind fun v20 =>
  (mkRows 1 [.int .u8 0] 5 [(0, .int .u8 0), (1, .int .u8 1), (2, .int .u8 2), (3, .int .u8 3), (4, .int .u8 4)]).bind fun v21 =>
  (call n_rec_Get [AV.canon v21] p17.2).bind fun p22 => retOr p22.1 (fun r23p => some (AEnd.pan r23p, p22.2)) fun r23 =>
  (exTuple 0 r23).bind fun v24 =>
  (exTuple 1 r23).bind fun v25 =>
  (exTuple 2 r23).bind fun v26 =>
  (mkAgg [.int .i64 0, .int .i64 0, .str [], .str [], .int .i64 0, .str []] [(0, 1, AV.copy (.int .i64 1)), (1, 1, AV.copy (.int .i64 1)), (2, 1, AV.copy (.str [102])), (3, 1, AV.copy (.str [102])), (4, 1, AV.copy (.int .i64 1)), (5, 1, AV.copy (.str [120]))]).bind fun v27 =>
  (mkAgg [.int .u64 0, .int .i64 0, .int .i64 0, .str [], .str [], .int .i64 0, .str [], .int .i64 0, .int .i64 0, .str []] [(0, 1, AV.copy (.int .u64 1)), (1, 6, AV.copy v27), (7, 1, AV.copy (.int .i64 2)), (8, 1, AV.copy (.int .i64 1))]).bind fun v28 =>
  let h29 : H := p22.2 ++ [.arr [.int .u64 0, .int .i64 0, .int .i64 0, .str [], .str [], .int .i64 0, .str [], .int .i64 0, .int .i64 0, .str []] false]
  (stN 10 h29 (.ptr p22.2.length 0) v28).bind fun p30 =>
  (ldAgg 10 p30.2 (.ptr p22.2.length 0)).bind fun v31 =>
  let h32 : H := p30.2 ++ [.arr [.int .u64 0, .int .i64 0, .int .i64 0, .str [], .str [], .int .i64 0, .str [], .int .i64 0, .int .i64 0, .str []] false]
  (stN 10 h32 (.ptr p30.2.length 0) (AV.copy v31)).bind fun p33 =>
  (fAddr 9 (.ptr p30.2.length 0)).bind fun v34 =>
  (stN 1 p33.2 v34 (.str [110])).bind fun p35 =>
  (bin .eql v7 (.int .i64 0)).bind fun v36 =>
  condV v36 (
    (lnSl v6).bind fun v37 =>
    (bin .eql v37 (.int .i64 15)).bind fun v38 =>
    condV v38 (
      (slSlice 1 v6 none (some (.int .i64 11)) none).bind fun v39 =>
      (bytesStr p35.2 v39).bind fun v40 =>
      (bin .eql v40 (.str [10, 1, 4, 7, 0, 0, 0, 0, 0, 0, 0])).bind fun v41 =>
      condV v41 (
        (bin .eql v16 (.int .i64 0)).bind fun v42 =>
        condV v42 (
          (bin .eql v15 (.int .i64 15)).bind fun v43 =>
          condV v43 (
            (call n_warrantorref27_Same [AV.canon v3, AV.canon v14] p35.2).bind fun p44 => retOr p44.1 (fun r45p => some (AEnd.pan r45p, p44.2)) fun r45 =>
            condV r45 (
              (bin .eql v20 (.int .i64 270)).bind fun v46 =>
              condV v46 (
                (bin .eql v26 (.int .i64 42)).bind fun v47 =>
                condV v47 (
                  (ldAgg 10 p44.2 (.ptr p22.2.length 0)).bind fun v48 =>
                  (call n_rec_Right [AV.canon v48] p44.2).bind fun p49 => retOr p49.1 (fun r50p => some (AEnd.pan r50p, p49.2)) fun r50 =>
                  condV r50 (
                    (ldAgg 10 p49.2 (.ptr p30.2.length 0)).bind fun v51 =>
                    (call n_rec_Right [AV.canon v51] p49.2).bind fun p52 => retOr p52.1 (fun r53p => some (AEnd.pan r53p, p52.2)) fun r53 =>
                    (unOp .not r53).bind fun v54 =>
                    condV v54 (
                      (ixSlice 11 v3 (.int .i64 0)).bind fun v55 =>
                      (ldAgg 11 p52.2 v55).bind fun v56 =>
                      (call n_rec_Check [AV.canon v56] p52.2).bind fun p57 => retOr p57.1 (fun r58p => some (AEnd.pan r58p, p57.2)) fun r58 =>
                      (bin .eql r58 (.int .i64 0)).bind fun v59 =>
                      condV v59 (
                        (mkAgg [.int .i64 0, .int .u64 0, .int .i64 0, .int .i64 0, .str [], .str [], .int .i64 0, .str [], .int .i64 0, .int .i64 0, .str []] []).bind fun v60 =>
                        (call n_rec_Check [AV.canon v60] p57.2).bind fun p61 => retOr p61.1 (fun r62p => some (AEnd.pan r62p, p61.2)) fun r62 =>
                        (bin .eql r62 (.int .i64 270)).bind fun v63 =>
                        condV v63 (
                          (call n_rec_Same [AV.canon v3, AV.canon v14] p61.2).bind fun p64 => retOr p64.1 (fun r65p => some (AEnd.pan r65p, p64.2)) fun r65 =>
                          some (AEnd.ret (AV.copy r65), p64.2)) (
                          some (AEnd.ret (AV.copy (.bool false)), p61.2))) (
                        some (AEnd.ret (AV.copy (.bool false)), p57.2))) (
                      some (AEnd.ret (AV.copy (.bool false)), p52.2))) (
                    some (AEnd.ret (AV.copy (.bool false)), p49.2))) (
                  some (AEnd.ret (AV.copy (.bool false)), p44.2))) (
                some (AEnd.ret (AV.copy (.bool false)), p44.2))) (
              some (AEnd.ret (AV.copy (.bool false)), p44.2))) (
            some (AEnd.ret (AV.copy (.bool false)), p35.2))) (
          some (AEnd.ret (AV.copy (.bool false)), p35.2))) (
        some (AEnd.ret (AV.copy (.bool false)), p35.2))) (
      some (AEnd.ret (AV.copy (.bool false)), p35.2))) (
    some (AEnd.ret (AV.copy (.bool false)), p35.2)) := (hJ _ _ _ (by kernel_rfl)).trans (by kernel_rfl)
/-! ### warrantor/rec.Check: function 15 -/
noncomputable def rec_Check.A : FAnn := { nv := 5, mv := [(2, 0)], ld := [], lst := [], obj := [(1, 7)], q := [], raw := [] }
noncomputable def rec_Check.an : Ann := .mk none .nil (.mk none (.mk none .nil (.mk none .nil (.mk (some [(21, 0)]) .nil .nil))) .nil)
noncomputable abbrev rec_Check.c : Code := Tryz.f15.body.getD .skip
noncomputable def rec_Check.J (call : Cl) (n : Nat) : Jn (AEnd × H) := realJ Tryz.prog rec_Check.A call Tryz.f15 rec_Check.an rec_Check.c n
abbrev rec_Check.F (call : Cl) (n : Nat) (J : Jn (AEnd × H)) : Prop := JFix Tryz.prog rec_Check.A call Tryz.f15 rec_Check.an rec_Check.c n J
def rec_Check.f (J : Jn (AEnd × H)) (x0 : AV) (h : H) : Option (AEnd × H) := J [] [] ⟨[(0, x0)], [], [], h⟩
def rec_Check.j0 (J : Jn (AEnd × H)) (x21 : AV) (h : H) : Option (AEnd × H) := J [1, 0, 1, 1] [] ⟨[(21, x21)], [(21, 0)], [], h⟩
theorem rec_Check.f_eq {call : Cl} {n : Nat} {J : Jn (AEnd × H)} (hJ : rec_Check.F call n J) (x0 : AV) (h : H) : rec_Check.f J x0 h =
  (bx h (AV.copy x0)).bind fun p1 =>
  let h2 : H := p1.2 ++ [.arr [.list [] .cap, .list [] .cap, .nilFunc] false]
  (call n_rec_kinds [] h2).bind fun p3 => retOr p3.1 (fun _ => none) fun r4 =>
  (fAddr 0 p1.1).bind fun v5 =>
  (ldCell p3.2 v5).bind fun v6 =>
  whenB (eqO (ldCell h2 v5) v6) (
    (lkMap .int (.agg [.list [] .cap, .list [] .cap, .nilFunc]) p3.2 r4 v6 true).bind fun v7 =>
    (exTuple 0 v7).bind fun v8 =>
    (exTuple 1 v7).bind fun v9 =>
    (slotOp p1.2.length [.list [] .cap, .list [] .cap, .nilFunc] p3.2).bind fun v10 =>
    whenB (eqO (slotOp p1.2.length [.list [] .cap, .list [] .cap, .nilFunc] h2) v10) (
      (stN 3 p3.2 v10 (AV.copy v8)).bind fun p11 =>
      (unOp .not v9).bind fun v12 =>
      condV v12 (
        rec_Check.j0 J  (.bool true) p11.2) (
        (fAddr 2 v10).bind fun v13 =>
        (ldCell p11.2 v13).bind fun v14 =>
        (fAddr 1 p1.1).bind fun v15 =>
        (ldAgg 10 p11.2 v15).bind fun v16 =>
        (callVal call p11.2 v14 [AV.canon v16]).bind fun p17 => retOr p17.1 (fun r18p => some (AEnd.pan r18p, p17.2)) fun r18 =>
        (unOp .not r18).bind fun v19 =>
        rec_Check.j0 J  v19 p17.2))) := (hJ _ _ _ (by kernel_rfl)).trans (by kernel_rfl)
theorem rec_Check.j0_eq {call : Cl} {n : Nat} {J : Jn (AEnd × H)} (hJ : rec_Check.F call n J) (x21 : AV) (h : H) : rec_Check.j0 J  x21 h =
  condV x21 (
    some (AEnd.ret (.int .i64 270), h)) (
    some (AEnd.ret (.int .i64 0), h)) := (hJ _ _ _ (by kernel_rfl)).trans (by kernel_rfl)
/-! ### warrantor/rec.Right: function 16 -/
noncomputable def rec_Right.A : FAnn := { nv := 5, mv := [(3, 5), (3, 8)], ld := [], lst := [], obj := [], q := [], raw := [] }
noncomputable def rec_Right.an : Ann := .mk none .nil (.mk none .nil (.mk (some [(1, 0), (3, 0)]) .nil (.mk (some [(1, 0), (3, 0), (4, 0)]) .nil .nil)))
noncomputable abbrev rec_Right.c : Code := Tryz.f16.body.getD .skip
noncomputable def rec_Right.J (call : Cl) (n : Nat) : Jn (AEnd × H) := realJ Tryz.prog rec_Right.A call Tryz.f16 rec_Right.an rec_Right.c n
abbrev rec_Right.F (call : Cl) (n : Nat) (J : Jn (AEnd × H)) : Prop := JFix Tryz.prog rec_Right.A call Tryz.f16 rec_Right.an rec_Right.c n J
def rec_Right.f (J : Jn (AEnd × H)) (x0 : AV) (h : H) : Option (AEnd × H) := J [] [] ⟨[(0, x0)], [], [], h⟩
def rec_Right.j0 (J : Jn (AEnd × H)) (x1 x3 : AV) (h : H) : Option (AEnd × H) := J [1, 1] [] ⟨[(1, x1), (3, x3)], [(1, 0), (3, 0)], [], h⟩
def rec_Right.j1 (J : Jn (AEnd × H)) (x1 x3 x4 : AV) (h : H) : Option (AEnd × H) := J [1, 1, 1] [] ⟨[(1, x1), (3, x3), (4, x4)], [(1, 0), (3, 0), (4, 0)], [], h⟩
theorem rec_Right.f_eq {call : Cl} {n : Nat} {J : Jn (AEnd × H)} (hJ : rec_Right.F call n J) (x0 : AV) (h : H) : rec_Right.f J x0 h =
  (bx h (AV.copy x0)).bind fun p1 =>
  (fAddr 7 p1.1).bind fun v2 =>
  (ldCell p1.2 v2).bind fun v3 =>
  (bin .geq v3 (.int .i64 1)).bind fun v4 =>
  condV v4 (
    (fAddr 7 p1.1).bind fun v5 =>
    (ldCell p1.2 v5).bind fun v6 =>
    (bin .leq v6 (.int .i64 3)).bind fun v7 =>
    rec_Right.j0 J  p1.1 v7 p1.2) (
    rec_Right.j0 J  p1.1 (.bool false) p1.2) := (hJ _ _ _ (by kernel_rfl)).trans (by kernel_rfl)
theorem rec_Right.j0_eq {call : Cl} {n : Nat} {J : Jn (AEnd × H)} (hJ : rec_Right.F call n J) (x1 x3 : AV) (h : H) : rec_Right.j0 J  x1 x3 h =
  (fAddr 8 x1).bind fun v8 =>
  (ldCell h v8).bind fun v9 =>
  (bin .geq v9 (.int .i64 1)).bind fun v10 =>
  condV v10 (
    (fAddr 8 x1).bind fun v11 =>
    (ldCell h v11).bind fun v12 =>
    (bin .leq v12 (.int .i64 1048576)).bind fun v13 =>
    rec_Right.j1 J  x1 x3 v13 h) (
    rec_Right.j1 J  x1 x3 (.bool false) h) := (hJ _ _ _ (by kernel_rfl)).trans (by kernel_rfl)
theorem rec_Right.j1_eq {call : Cl} {n : Nat} {J : Jn (AEnd × H)} (hJ : rec_Right.F call n J) (x1 x3 x4 : AV) (h : H) : rec_Right.j1 J  x1 x3 x4 h =
  (fAddr 1 x1).bind fun v14 =>
  (ldAgg 6 h v14).bind fun v15 =>
  (call n_alarm_Check [AV.canon v15] h).bind fun p16 => retOr p16.1 (fun r17p => some (AEnd.pan r17p, p16.2)) fun r17 =>
  (bin .eql r17 (.int .i64 0)).bind fun v18 =>
  condV v18 (
    condV x3 (
      condV x4 (
        (fAddr 9 x1).bind fun v19 =>
        (ldCell p16.2 v19).bind fun v20 =>
        (call n_rec_note [AV.canon v20] p16.2).bind fun p21 => retOr p21.1 (fun r22p => some (AEnd.pan r22p, p21.2)) fun r22 =>
        condV r22 (
          (fAddr 7 x1).bind fun v23 =>
          (ldCell p21.2 v23).bind fun v24 =>
          (bin .eql v24 (.int .i64 3)).bind fun v25 =>
          condV v25 (
            some (AEnd.ret (AV.copy (.bool true)), p21.2)) (
            (fAddr 9 x1).bind fun v26 =>
            (ldCell p21.2 v26).bind fun v27 =>
            (bin .eql v27 (.str [])).bind fun v28 =>
            some (AEnd.ret (AV.copy v28), p21.2))) (
          some (AEnd.ret (AV.copy (.bool false)), p21.2))) (
        some (AEnd.ret (AV.copy (.bool false)), p16.2))) (
      some (AEnd.ret (AV.copy (.bool false)), p16.2))) (
    some (AEnd.ret (AV.copy (.bool false)), p16.2)) := (hJ _ _ _ (by kernel_rfl)).trans (by kernel_rfl)
/-! ### warrantor/warrantorref27.Right: function 17 -/
noncomputable def warrantorref27_Right.A : FAnn := { nv := 2, mv := [], ld := [], lst := [], obj := [], q := [], raw := [] }
noncomputable def warrantorref27_Right.an : Ann := .mk none .nil (.mk none (.mk none .nil (.mk (some [(1, 0), (32, 0)]) .nil .nil)) (.mk (some [(1, 0)]) .nil .nil))
noncomputable abbrev warrantorref27_Right.c : Code := Tryz.f17.body.getD .skip
noncomputable def warrantorref27_Right.J (call : Cl) (n : Nat) : Jn (AEnd × H) := realJ Tryz.prog warrantorref27_Right.A call Tryz.f17 warrantorref27_Right.an warrantorref27_Right.c n
abbrev warrantorref27_Right.F (call : Cl) (n : Nat) (J : Jn (AEnd × H)) : Prop := JFix Tryz.prog warrantorref27_Right.A call Tryz.f17 warrantorref27_Right.an warrantorref27_Right.c n J
def warrantorref27_Right.f (J : Jn (AEnd × H)) (x0 : AV) (h : H) : Option (AEnd × H) := J [] [] ⟨[(0, x0)], [], [], h⟩
def warrantorref27_Right.j1 (J : Jn (AEnd × H)) (x1 x32 : AV) (h : H) : Option (AEnd × H) := J [1, 0, 1] [] ⟨[(1, x1), (32, x32)], [(1, 0), (32, 0)], [], h⟩
def warrantorref27_Right.j0 (J : Jn (AEnd × H)) (x1 : AV) (h : H) : Option (AEnd × H) := J [1, 1] [] ⟨[(1, x1)], [(1, 0)], [], h⟩
theorem warrantorref27_Right.f_eq {call : Cl} {n : Nat} {J : Jn (AEnd × H)} (hJ : warrantorref27_Right.F call n J) (x0 : AV) (h : H) : warrantorref27_Right.f J x0 h =
  (bx h (AV.copy x0)).bind fun p1 =>
  (fAddr 1 p1.1).bind fun v2 =>
  (ldAgg 6 p1.2 v2).bind fun v3 =>
  (call n_warrantorref17_Check [AV.canon v3] p1.2).bind fun p4 => retOr p4.1 (fun r5p => some (AEnd.pan r5p, p4.2)) fun r5 =>
  (unOp .not r5).bind fun v6 =>
  condV v6 (
    warrantorref27_Right.j1 J  p1.1 (.bool true) p4.2) (
    (fAddr 7 p1.1).bind fun v7 =>
    (ldCell p4.2 v7).bind fun v8 =>
    (bin .lss v8 (.int .i64 1)).bind fun v9 =>
    condV v9 (
      warrantorref27_Right.j1 J  p1.1 (.bool true) p4.2) (
      (fAddr 7 p1.1).bind fun v10 =>
      (ldCell p4.2 v10).bind fun v11 =>
      (bin .gtr v11 (.int .i64 3)).bind fun v12 =>
      condV v12 (
        warrantorref27_Right.j1 J  p1.1 (.bool true) p4.2) (
        (fAddr 8 p1.1).bind fun v13 =>
        (ldCell p4.2 v13).bind fun v14 =>
        (bin .lss v14 (.int .i64 1)).bind fun v15 =>
        condV v15 (
          warrantorref27_Right.j1 J  p1.1 (.bool true) p4.2) (
          (fAddr 8 p1.1).bind fun v16 =>
          (ldCell p4.2 v16).bind fun v17 =>
          (bin .gtr v17 (.int .i64 1048576)).bind fun v18 =>
          condV v18 (
            warrantorref27_Right.j1 J  p1.1 (.bool true) p4.2) (
            (fAddr 9 p1.1).bind fun v19 =>
            (ldCell p4.2 v19).bind fun v20 =>
            (call n_warrantorref21_Note [AV.canon v20] p4.2).bind fun p21 => retOr p21.1 (fun r22p => some (AEnd.pan r22p, p21.2)) fun r22 =>
            (unOp .not r22).bind fun v23 =>
            warrantorref27_Right.j1 J  p1.1 v23 p21.2))))) := (hJ _ _ _ (by kernel_rfl)).trans (by kernel_rfl)
theorem warrantorref27_Right.j1_eq {call : Cl} {n : Nat} {J : Jn (AEnd × H)} (hJ : warrantorref27_Right.F call n J) (x1 x32 : AV) (h : H) : warrantorref27_Right.j1 J  x1 x32 h =
  condV x32 (
    some (AEnd.ret (.bool false), h)) (
    warrantorref27_Right.j0 J  x1 h) := (hJ _ _ _ (by kernel_rfl)).trans (by kernel_rfl)
theorem warrantorref27_Right.j0_eq {call : Cl} {n : Nat} {J : Jn (AEnd × H)} (hJ : warrantorref27_Right.F call n J) (x1 : AV) (h : H) : warrantorref27_Right.j0 J  x1 h =
  (fAddr 7 x1).bind fun v24 =>
  (ldCell h v24).bind fun v25 =>
  (bin .eql v25 (.int .i64 3)).bind fun v26 =>
  condV v26 (
    some (AEnd.ret (AV.copy (.bool true)), h)) (
    (fAddr 9 x1).bind fun v27 =>
    (ldCell h v27).bind fun v28 =>
    (bin .eql v28 (.str [])).bind fun v29 =>
    some (AEnd.ret (AV.copy v29), h)) := (hJ _ _ _ (by kernel_rfl)).trans (by kernel_rfl)
/-! ### warrantor/warrantorref27.Check: function 18 -/
noncomputable def warrantorref27_Check.A : FAnn := { nv := 2, mv := [], ld := [], lst := [], obj := [], q := [51], raw := [] }
noncomputable def warrantorref27_Check.an : Ann := .mk none .nil (.mk none .nil (.mk none (.mk none .nil (.mk none (.mk none .nil (.mk none .nil (.mk none .nil (.mk none .nil (.mk none .nil (.mk (some [(1, 0), (12, 0), (25, 0)]) .nil .nil)))))) .nil)) .nil))
noncomputable abbrev warrantorref27_Check.c : Code := Tryz.f18.body.getD .skip
noncomputable def warrantorref27_Check.J (call : Cl) (n : Nat) : Jn (AEnd × H) := realJ Tryz.prog warrantorref27_Check.A call Tryz.f18 warrantorref27_Check.an warrantorref27_Check.c n
abbrev warrantorref27_Check.F (call : Cl) (n : Nat) (J : Jn (AEnd × H)) : Prop := JFix Tryz.prog warrantorref27_Check.A call Tryz.f18 warrantorref27_Check.an warrantorref27_Check.c n J
def warrantorref27_Check.f (J : Jn (AEnd × H)) (x0 : AV) (h : H) : Option (AEnd × H) := J [] [] ⟨[(0, x0)], [], [], h⟩
def warrantorref27_Check.j0 (J : Jn (AEnd × H)) (x1 x12 x25 : AV) (h : H) : Option (AEnd × H) := J [1, 1, 0, 1, 0, 1, 1, 1, 1, 1] [] ⟨[(1, x1), (12, x12), (25, x25)], [(1, 0), (12, 0), (25, 0)], [], h⟩
theorem warrantorref27_Check.f_eq {call : Cl} {n : Nat} {J : Jn (AEnd × H)} (hJ : warrantorref27_Check.F call n J) (x0 : AV) (h : H) : warrantorref27_Check.f J x0 h =
  (bx h (AV.copy x0)).bind fun p1 =>
  (fAddr 1 p1.1).bind fun v2 =>
  (ldAgg 10 p1.2 v2).bind fun v3 =>
  (fAddr 0 p1.1).bind fun v4 =>
  (ldCell p1.2 v4).bind fun v5 =>
  (fAddr 1 p1.1).bind fun v6 =>
  (ldAgg 10 p1.2 v6).bind fun v7 =>
  (call n_warrantorref27_Uses [AV.canon v5, AV.canon v7] p1.2).bind fun p8 => retOr p8.1 (fun _ => none) fun r9 =>
  (eqv true (aeq Tryz.prog 20 t_api_Entry v3 r9)).bind fun v10 =>
  condV v10 (
    some (AEnd.ret (.bool false), p8.2)) (
    (fAddr 0 p1.1).bind fun v11 =>
    (ldCell p8.2 v11).bind fun v12 =>
    (bin .eql v12 (.int .i64 1)).bind fun v13 =>
    condV v13 (
      (fAddr 1 p1.1).bind fun v14 =>
      (fAddr 1 v14).bind fun v15 =>
      (ldAgg 6 p8.2 v15).bind fun v16 =>
      (call n_warrantorref17_Check [AV.canon v16] p8.2).bind fun p17 => retOr p17.1 (fun r18p => some (AEnd.pan r18p, p17.2)) fun r18 =>
      some (AEnd.ret r18, p17.2)) (
      (bin .eql v12 (.int .i64 2)).bind fun v19 =>
      condV v19 (
        (fAddr 1 p1.1).bind fun v20 =>
        (fAddr 9 v20).bind fun v21 =>
        (ldCell p8.2 v21).bind fun v22 =>
        (call n_warrantorref21_Note [AV.canon v22] p8.2).bind fun p23 => retOr p23.1 (fun r24p => some (AEnd.pan r24p, p23.2)) fun r24 =>
        some (AEnd.ret r24, p23.2)) (
        (bin .eql v12 (.int .i64 3)).bind fun v25 =>
        condV v25 (
          warrantorref27_Check.j0 J  p1.1 v12 v25 p8.2) (
          (bin .eql v12 (.int .i64 4)).bind fun v26 =>
          warrantorref27_Check.j0 J  p1.1 v12 v26 p8.2)))) := (hJ _ _ _ (by kernel_rfl)).trans (by kernel_rfl)
theorem warrantorref27_Check.j0_eq {call : Cl} {n : Nat} {J : Jn (AEnd × H)} (hJ : warrantorref27_Check.F call n J) (x1 x12 x25 : AV) (h : H) : warrantorref27_Check.j0 J  x1 x12 x25 h =
  condV x25 (
    some (AEnd.ret (.bool true), h)) (
    (bin .eql x12 (.int .i64 5)).bind fun v27 =>
    condV v27 (
      (fAddr 1 x1).bind fun v28 =>
      (ldAgg 10 h v28).bind fun v29 =>
      (call n_warrantorref27_Right [AV.canon v29] h).bind fun p30 => retOr p30.1 (fun r31p => some (AEnd.pan r31p, p30.2)) fun r31 =>
      some (AEnd.ret r31, p30.2)) (
      some (AEnd.ret (.bool false), h))) := (hJ _ _ _ (by kernel_rfl)).trans (by kernel_rfl)
/-! ### warrantor/rec.Same: function 19 -/
noncomputable def rec_Same.A : FAnn := { nv := 4, mv := [(1, 0), (1, 1)], ld := [], lst := [], obj := [], q := [], raw := [] }
noncomputable def rec_Same.an : Ann := .nil
noncomputable abbrev rec_Same.c : Code := Tryz.f19.body.getD .skip
noncomputable def rec_Same.J (call : Cl) (n : Nat) : Jn (AEnd × H) := realJ Tryz.prog rec_Same.A call Tryz.f19 rec_Same.an rec_Same.c n
abbrev rec_Same.F (call : Cl) (n : Nat) (J : Jn (AEnd × H)) : Prop := JFix Tryz.prog rec_Same.A call Tryz.f19 rec_Same.an rec_Same.c n J
def rec_Same.f (J : Jn (AEnd × H)) (x0 x1 : AV) (h : H) : Option (AEnd × H) := J [] [] ⟨[(0, x0), (1, x1)], [], [], h⟩
theorem rec_Same.f_eq {call : Cl} {n : Nat} {J : Jn (AEnd × H)} (hJ : rec_Same.F call n J) (x0 x1 : AV) (h : H) : rec_Same.f J x0 x1 h =
  (call n_slices_Equal_api_Change_api_Change [AV.canon x0, AV.canon x1] h).bind fun p1 => retOr p1.1 (fun r2p => some (AEnd.pan r2p, p1.2)) fun r2 =>
  some (AEnd.ret r2, p1.2) := (hJ _ _ _ (by kernel_rfl)).trans (by kernel_rfl)
/-! ### warrantor/warrantorref27.Same: function 20 -/
noncomputable def warrantorref27_Same.A : FAnn := { nv := 6, mv := [(5, 0)], ld := [], lst := [], obj := [], q := [], raw := [] }
noncomputable def warrantorref27_Same.an : Ann := .mk none .nil (.mk none .nil (.mk none (.mk none .nil (.mk none (.mk none (.mk (some [(0, 0), (1, 0), (5, 0)]) .nil .nil) .nil) .nil)) .nil))
noncomputable abbrev warrantorref27_Same.c : Code := Tryz.f20.body.getD .skip
noncomputable def warrantorref27_Same.J (call : Cl) (n : Nat) : Jn (AEnd × H) := realJ Tryz.prog warrantorref27_Same.A call Tryz.f20 warrantorref27_Same.an warrantorref27_Same.c n
abbrev warrantorref27_Same.F (call : Cl) (n : Nat) (J : Jn (AEnd × H)) : Prop := JFix Tryz.prog warrantorref27_Same.A call Tryz.f20 warrantorref27_Same.an warrantorref27_Same.c n J
def warrantorref27_Same.f (J : Jn (AEnd × H)) (x0 x1 : AV) (h : H) : Option (AEnd × H) := J [] [] ⟨[(0, x0), (1, x1)], [], [], h⟩
def warrantorref27_Same.l0 (J : Jn (AEnd × H)) (m0 : Nat) (x0 x1 x5 : AV) (h : H) : Option (AEnd × H) := J [1, 1, 0, 1, 0] [m0] ⟨[(0, x0), (1, x1), (5, x5)], [(0, 0), (1, 0), (5, 0)], [], h⟩
theorem warrantorref27_Same.f_eq {call : Cl} {n : Nat} {J : Jn (AEnd × H)} (hJ : warrantorref27_Same.F call n J) (x0 x1 : AV) (h : H) : warrantorref27_Same.f J x0 x1 h =
  (lnSl x0).bind fun v1 =>
  (lnSl x1).bind fun v2 =>
  (bin .neq v1 v2).bind fun v3 =>
  condV v3 (
    some (AEnd.ret (.bool false), h)) (
    warrantorref27_Same.l0 J n x0 x1 (.int .i64 0) h) := (hJ _ _ _ (by kernel_rfl)).trans (by kernel_rfl)
theorem warrantorref27_Same.l0_eq {call : Cl} {n : Nat} {J : Jn (AEnd × H)} (hJ : warrantorref27_Same.F call n J) (m0 : Nat) (x0 x1 x5 : AV) (h : H) : warrantorref27_Same.l0 J (m0 + 1) x0 x1 x5 h =
  (lnSl x0).bind fun v4 =>
  (bin .lss x5 v4).bind fun v5 =>
  condV v5 (
    (ixSlice 11 x0 x5).bind fun v6 =>
    (ldAgg 11 h v6).bind fun v7 =>
    (ixSlice 11 x1 x5).bind fun v8 =>
    (ldAgg 11 h v8).bind fun v9 =>
    (eqv true (aeq Tryz.prog 20 t_api_Change v7 v9)).bind fun v10 =>
    condV v10 (
      some (AEnd.ret (.bool false), h)) (
      (bin .add x5 (.int .i64 1)).bind fun v11 =>
      warrantorref27_Same.l0 J m0 x0 x1 v11 h)) (
    some (AEnd.ret (.bool true), h)) := (hJ _ _ _ (by kernel_rfl)).trans (by kernel_rfl)
/-! ### warrantor/rec.Put: function 21 -/
noncomputable def rec_Put.A : FAnn := { nv := 5, mv := [(4, 1), (6, 0)], ld := [], lst := [], obj := [], q := [], raw := [] }
noncomputable def rec_Put.an : Ann := .nil
noncomputable abbrev rec_Put.c : Code := Tryz.f21.body.getD .skip
noncomputable def rec_Put.J (call : Cl) (n : Nat) : Jn (AEnd × H) := realJ Tryz.prog rec_Put.A call Tryz.f21 rec_Put.an rec_Put.c n
abbrev rec_Put.F (call : Cl) (n : Nat) (J : Jn (AEnd × H)) : Prop := JFix Tryz.prog rec_Put.A call Tryz.f21 rec_Put.an rec_Put.c n J
def rec_Put.f (J : Jn (AEnd × H)) (x0 : AV) (h : H) : Option (AEnd × H) := J [] [] ⟨[(0, x0)], [], [], h⟩
theorem rec_Put.f_eq {call : Cl} {n : Nat} {J : Jn (AEnd × H)} (hJ : rec_Put.F call n J) (x0 : AV) (h : H) : rec_Put.f J x0 h =
  (call n_rec_batch [AV.canon x0] h).bind fun p1 => retOr p1.1 (fun r2p => some (AEnd.pan r2p, p1.2)) fun r2 =>
  (unOp .not r2).bind fun v3 =>
  condV v3 (
    some (AEnd.ret (.tuple [(.list [] .cap), (.int .i64 270)]), p1.2)) (
    (call n_cur_New [] p1.2).bind fun p4 => retOr p4.1 (fun r5p => some (AEnd.pan r5p, p4.2)) fun r5 =>
    (call n_rec_body [AV.canon x0] p4.2).bind fun p6 => retOr p6.1 (fun r7p => some (AEnd.pan r7p, p6.2)) fun r7 =>
    (bytesStr p6.2 r7).bind fun v8 =>
    (call n_cur_Pen_Text [AV.canon r5, AV.canon v8] p6.2).bind fun p9 => retOr p9.1 (fun r10p => some (AEnd.pan r10p, p9.2)) fun r10 =>
    (call n_cur_Pen_Bytes [AV.canon r5] p9.2).bind fun p11 => retOr p11.1 (fun r12p => some (AEnd.pan r12p, p11.2)) fun r12 =>
    (call n_crc_Sum [AV.canon r12] p11.2).bind fun p13 => retOr p13.1 (fun r14p => some (AEnd.pan r14p, p13.2)) fun r14 =>
    (call n_cur_Pen_Word [AV.canon r5, AV.canon r14] p13.2).bind fun p15 => retOr p15.1 (fun r16p => some (AEnd.pan r16p, p15.2)) fun r16 =>
    (call n_cur_Pen_Bytes [AV.canon r5] p15.2).bind fun p17 => retOr p17.1 (fun r18p => some (AEnd.pan r18p, p17.2)) fun r18 =>
    some (AEnd.ret (.tuple [r18, (.int .i64 0)]), p17.2)) := (hJ _ _ _ (by kernel_rfl)).trans (by kernel_rfl)
/-! ### warrantor/warrantorref27.Batch: function 22 -/
noncomputable def warrantorref27_Batch.A : FAnn := { nv := 4, mv := [(3, 0), (6, 4)], ld := [], lst := [], obj := [], q := [], raw := [] }
noncomputable def warrantorref27_Batch.an : Ann := .mk none .nil (.mk none (.mk none .nil (.mk none (.mk none (.mk (some [(0, 0), (3, 0)]) .nil .nil) .nil) .nil)) .nil)
noncomputable abbrev warrantorref27_Batch.c : Code := Tryz.f22.body.getD .skip
noncomputable def warrantorref27_Batch.J (call : Cl) (n : Nat) : Jn (AEnd × H) := realJ Tryz.prog warrantorref27_Batch.A call Tryz.f22 warrantorref27_Batch.an warrantorref27_Batch.c n
abbrev warrantorref27_Batch.F (call : Cl) (n : Nat) (J : Jn (AEnd × H)) : Prop := JFix Tryz.prog warrantorref27_Batch.A call Tryz.f22 warrantorref27_Batch.an warrantorref27_Batch.c n J
def warrantorref27_Batch.f (J : Jn (AEnd × H)) (x0 : AV) (h : H) : Option (AEnd × H) := J [] [] ⟨[(0, x0)], [], [], h⟩
def warrantorref27_Batch.l0 (J : Jn (AEnd × H)) (m0 : Nat) (x0 x3 : AV) (h : H) : Option (AEnd × H) := J [1, 0, 1, 0] [m0] ⟨[(0, x0), (3, x3)], [(0, 0), (3, 0)], [], h⟩
theorem warrantorref27_Batch.f_eq {call : Cl} {n : Nat} {J : Jn (AEnd × H)} (hJ : warrantorref27_Batch.F call n J) (x0 : AV) (h : H) : warrantorref27_Batch.f J x0 h =
  warrantorref27_Batch.l0 J n x0 (.int .i64 0) h := (hJ _ _ _ (by kernel_rfl)).trans (by kernel_rfl)
theorem warrantorref27_Batch.l0_eq {call : Cl} {n : Nat} {J : Jn (AEnd × H)} (hJ : warrantorref27_Batch.F call n J) (m0 : Nat) (x0 x3 : AV) (h : H) : warrantorref27_Batch.l0 J (m0 + 1) x0 x3 h =
  (lnSl x0).bind fun v1 =>
  (bin .lss x3 v1).bind fun v2 =>
  condV v2 (
    (ixSlice 11 x0 x3).bind fun v3 =>
    (ldAgg 11 h v3).bind fun v4 =>
    (call n_warrantorref27_Check [AV.canon v4] h).bind fun p5 => retOr p5.1 (fun r6p => some (AEnd.pan r6p, p5.2)) fun r6 =>
    (unOp .not r6).bind fun v7 =>
    condV v7 (
      some (AEnd.ret (.bool false), p5.2)) (
      (bin .add x3 (.int .i64 1)).bind fun v8 =>
      warrantorref27_Batch.l0 J m0 x0 v8 p5.2)) (
    (lnSl x0).bind fun v9 =>
    (bin .geq v9 (.int .i64 1)).bind fun v10 =>
    condV v10 (
      (lnSl x0).bind fun v11 =>
      (bin .leq v11 (.int .i64 512)).bind fun v12 =>
      some (AEnd.ret (AV.copy v12), h)) (
      some (AEnd.ret (AV.copy (.bool false)), h))) := (hJ _ _ _ (by kernel_rfl)).trans (by kernel_rfl)
/-! ### warrantor/rec.Get: function 23 -/
noncomputable def rec_Get.A : FAnn := { nv := 11, mv := [(6, 0), (7, 0), (7, 1), (7, 3), (9, 0), (10, 0), (12, 0), (12, 1)], ld := [], lst := [], obj := [], q := [], raw := [] }
noncomputable def rec_Get.an : Ann := .nil
noncomputable abbrev rec_Get.c : Code := Tryz.f23.body.getD .skip
noncomputable def rec_Get.J (call : Cl) (n : Nat) : Jn (AEnd × H) := realJ Tryz.prog rec_Get.A call Tryz.f23 rec_Get.an rec_Get.c n
abbrev rec_Get.F (call : Cl) (n : Nat) (J : Jn (AEnd × H)) : Prop := JFix Tryz.prog rec_Get.A call Tryz.f23 rec_Get.an rec_Get.c n J
def rec_Get.f (J : Jn (AEnd × H)) (x0 : AV) (h : H) : Option (AEnd × H) := J [] [] ⟨[(0, x0)], [], [], h⟩
theorem rec_Get.f_eq {call : Cl} {n : Nat} {J : Jn (AEnd × H)} (hJ : rec_Get.F call n J) (x0 : AV) (h : H) : rec_Get.f J x0 h =
  (call n_cur_From [AV.canon x0] h).bind fun p1 => retOr p1.1 (fun r2p => some (AEnd.pan r2p, p1.2)) fun r2 =>
  (call n_cur_Reader_Text [AV.canon r2, AV.canon (.int .i64 1048576)] p1.2).bind fun p3 => retOr p3.1 (fun r4p => some (AEnd.pan r4p, p3.2)) fun r4 =>
  (call n_cur_Reader_At [AV.canon r2] p3.2).bind fun p5 => retOr p5.1 (fun r6p => some (AEnd.pan r6p, p5.2)) fun r6 =>
  (call n_cur_Reader_Word [AV.canon r2] p5.2).bind fun p7 => retOr p7.1 (fun r8p => some (AEnd.pan r8p, p7.2)) fun r8 =>
  (call n_cur_Reader_Err [AV.canon r2] p7.2).bind fun p9 => retOr p9.1 (fun r10p => some (AEnd.pan r10p, p9.2)) fun r10 =>
  (bin .neq r10 (.int .i64 0)).bind fun v11 =>
  condV v11 (
    (call n_cur_Reader_Err [AV.canon r2] p9.2).bind fun p12 => retOr p12.1 (fun r13p => some (AEnd.pan r13p, p12.2)) fun r13 =>
    some (AEnd.ret (.tuple [(.list [] .cap), (.int .i64 0), r13]), p12.2)) (
    (slSlice 1 x0 none (some r6) none).bind fun v14 =>
    (call n_crc_Whole [AV.canon v14, AV.canon r8] p9.2).bind fun p15 => retOr p15.1 (fun r16p => some (AEnd.pan r16p, p15.2)) fun r16 =>
    (unOp .not r16).bind fun v17 =>
    condV v17 (
      some (AEnd.ret (.tuple [(.list [] .cap), (.int .i64 0), (.int .i64 42)]), p15.2)) (
      (strBytes r4).bind fun v18 =>
      (call n_rec_read [AV.canon v18] p15.2).bind fun p19 => retOr p19.1 (fun r20p => some (AEnd.pan r20p, p19.2)) fun r20 =>
      (exTuple 0 r20).bind fun v21 =>
      (exTuple 1 r20).bind fun v22 =>
      (unOp .not v22).bind fun v23 =>
      condV v23 (
        some (AEnd.ret (.tuple [(.list [] .cap), (.int .i64 0), (.int .i64 270)]), p19.2)) (
        (call n_cur_Reader_At [AV.canon r2] p19.2).bind fun p24 => retOr p24.1 (fun r25p => some (AEnd.pan r25p, p24.2)) fun r25 =>
        some (AEnd.ret (.tuple [v21, r25, (.int .i64 0)]), p24.2)))) := (hJ _ _ _ (by kernel_rfl)).trans (by kernel_rfl)
/-! ### warrantor/warrantorref27.Put: function 24 -/
noncomputable def warrantorref27_Put.A : FAnn := { nv := 2, mv := [(1, 0)], ld := [], lst := [], obj := [], q := [], raw := [] }
noncomputable def warrantorref27_Put.an : Ann := .nil
noncomputable abbrev warrantorref27_Put.c : Code := Tryz.f24.body.getD .skip
noncomputable def warrantorref27_Put.J (call : Cl) (n : Nat) : Jn (AEnd × H) := realJ Tryz.prog warrantorref27_Put.A call Tryz.f24 warrantorref27_Put.an warrantorref27_Put.c n
abbrev warrantorref27_Put.F (call : Cl) (n : Nat) (J : Jn (AEnd × H)) : Prop := JFix Tryz.prog warrantorref27_Put.A call Tryz.f24 warrantorref27_Put.an warrantorref27_Put.c n J
def warrantorref27_Put.f (J : Jn (AEnd × H)) (x0 : AV) (h : H) : Option (AEnd × H) := J [] [] ⟨[(0, x0)], [], [], h⟩
theorem warrantorref27_Put.f_eq {call : Cl} {n : Nat} {J : Jn (AEnd × H)} (hJ : warrantorref27_Put.F call n J) (x0 : AV) (h : H) : warrantorref27_Put.f J x0 h =
  (call n_warrantorref27_Body [AV.canon x0] h).bind fun p1 => retOr p1.1 (fun r2p => some (AEnd.pan r2p, p1.2)) fun r2 =>
  (call n_warrantorref27_Frame [AV.canon r2] p1.2).bind fun p3 => retOr p3.1 (fun r4p => some (AEnd.pan r4p, p3.2)) fun r4 =>
  some (AEnd.ret r4, p3.2) := (hJ _ _ _ (by kernel_rfl)).trans (by kernel_rfl)
/-! ### warrantor/warrantorref27.Get: function 25 -/
noncomputable def warrantorref27_Get.A : FAnn := { nv := 10, mv := [(1, 0), (3, 0), (4, 0), (5, 0), (7, 0), (7, 1)], ld := [], lst := [], obj := [], q := [], raw := [] }
noncomputable def warrantorref27_Get.an : Ann := .nil
noncomputable abbrev warrantorref27_Get.c : Code := Tryz.f25.body.getD .skip
noncomputable def warrantorref27_Get.J (call : Cl) (n : Nat) : Jn (AEnd × H) := realJ Tryz.prog warrantorref27_Get.A call Tryz.f25 warrantorref27_Get.an warrantorref27_Get.c n
abbrev warrantorref27_Get.F (call : Cl) (n : Nat) (J : Jn (AEnd × H)) : Prop := JFix Tryz.prog warrantorref27_Get.A call Tryz.f25 warrantorref27_Get.an warrantorref27_Get.c n J
def warrantorref27_Get.f (J : Jn (AEnd × H)) (x0 : AV) (h : H) : Option (AEnd × H) := J [] [] ⟨[(0, x0)], [], [], h⟩
theorem warrantorref27_Get.f_eq {call : Cl} {n : Nat} {J : Jn (AEnd × H)} (hJ : warrantorref27_Get.F call n J) (x0 : AV) (h : H) : warrantorref27_Get.f J x0 h =
  (call n_warrantorref27_Open [AV.canon x0] h).bind fun p1 => retOr p1.1 (fun r2p => some (AEnd.pan r2p, p1.2)) fun r2 =>
  (exTuple 0 r2).bind fun v3 =>
  (exTuple 1 r2).bind fun v4 =>
  (exTuple 2 r2).bind fun v5 =>
  (bin .neq v5 (.int .i64 0)).bind fun v6 =>
  condV v6 (
    some (AEnd.ret (.tuple [(.list [] .cap), (.int .i64 0), v5]), p1.2)) (
    (call n_warrantorref27_Changes [AV.canon v3] p1.2).bind fun p7 => retOr p7.1 (fun r8p => some (AEnd.pan r8p, p7.2)) fun r8 =>
    (exTuple 0 r8).bind fun v9 =>
    (exTuple 1 r8).bind fun v10 =>
    (unOp .not v10).bind fun v11 =>
    condV v11 (
      some (AEnd.ret (.tuple [(.list [] .cap), (.int .i64 0), (.int .i64 270)]), p7.2)) (
      some (AEnd.ret (.tuple [v9, v4, (.int .i64 0)]), p7.2))) := (hJ _ _ _ (by kernel_rfl)).trans (by kernel_rfl)
/-! ### warrantor/warrantorref27.Frame: function 26 -/
noncomputable def warrantorref27_Frame.A : FAnn := { nv := 4, mv := [(1, 0), (2, 1)], ld := [], lst := [], obj := [], q := [], raw := [] }
noncomputable def warrantorref27_Frame.an : Ann := .nil
noncomputable abbrev warrantorref27_Frame.c : Code := Tryz.f26.body.getD .skip
noncomputable def warrantorref27_Frame.J (call : Cl) (n : Nat) : Jn (AEnd × H) := realJ Tryz.prog warrantorref27_Frame.A call Tryz.f26 warrantorref27_Frame.an warrantorref27_Frame.c n
abbrev warrantorref27_Frame.F (call : Cl) (n : Nat) (J : Jn (AEnd × H)) : Prop := JFix Tryz.prog warrantorref27_Frame.A call Tryz.f26 warrantorref27_Frame.an warrantorref27_Frame.c n J
def warrantorref27_Frame.f (J : Jn (AEnd × H)) (x0 : AV) (h : H) : Option (AEnd × H) := J [] [] ⟨[(0, x0)], [], [], h⟩
theorem warrantorref27_Frame.f_eq {call : Cl} {n : Nat} {J : Jn (AEnd × H)} (hJ : warrantorref27_Frame.F call n J) (x0 : AV) (h : H) : warrantorref27_Frame.f J x0 h =
  (bytesStr h x0).bind fun v1 =>
  (call n_warrantorref02_Text [AV.canon v1] h).bind fun p2 => retOr p2.1 (fun r3p => some (AEnd.pan r3p, p2.2)) fun r3 =>
  (call n_warrantorref03_Sum [AV.canon r3] p2.2).bind fun p4 => retOr p4.1 (fun r5p => some (AEnd.pan r5p, p4.2)) fun r5 =>
  (call n_warrantorref02_Word [AV.canon r5] p4.2).bind fun p6 => retOr p6.1 (fun r7p => some (AEnd.pan r7p, p6.2)) fun r7 =>
  (apSlice 1 1 true false p6.2 r3 r7).bind fun v8 =>
  some (AEnd.ret v8, p6.2) := (hJ _ _ _ (by kernel_rfl)).trans (by kernel_rfl)
/-! ### warrantor/warrantorref27.Changes: function 27 -/
noncomputable def warrantorref27_Changes.A : FAnn := { nv := 7, mv := [(5, 0), (6, 0), (8, 0), (8, 14), (10, 0)], ld := [], lst := [], obj := [], q := [22, 28], raw := [] }
noncomputable def warrantorref27_Changes.an : Ann := .mk none .nil (.mk none .nil (.mk none .nil (.mk none (.mk none .nil (.mk none (.mk none (.mk (some [(0, 0), (4, 0), (5, 255), (6, 0)]) .nil (.mk (some [(0, 0), (4, 0), (5, 255), (6, 0)]) .nil .nil)) .nil) .nil)) (.mk none .nil (.mk none (.mk none .nil (.mk (some [(5, 255), (47, 0)]) .nil .nil)) .nil)))))
noncomputable abbrev warrantorref27_Changes.c : Code := Tryz.f27.body.getD .skip
noncomputable def warrantorref27_Changes.J (call : Cl) (n : Nat) : Jn (AEnd × H) := realJ Tryz.prog warrantorref27_Changes.A call Tryz.f27 warrantorref27_Changes.an warrantorref27_Changes.c n
abbrev warrantorref27_Changes.F (call : Cl) (n : Nat) (J : Jn (AEnd × H)) : Prop := JFix Tryz.prog warrantorref27_Changes.A call Tryz.f27 warrantorref27_Changes.an warrantorref27_Changes.c n J
def warrantorref27_Changes.f (J : Jn (AEnd × H)) (x0 : AV) (h : H) : Option (AEnd × H) := J [] [] ⟨[(0, x0)], [], [], h⟩
def warrantorref27_Changes.l0 (J : Jn (AEnd × H)) (m0 : Nat) (x0 x4 x5 x6 : AV) (h : H) : Option (AEnd × H) := J [1, 1, 1, 0, 1, 0] [m0] ⟨[(0, x0), (4, x4), (5, x5), (6, x6)], [(0, 0), (4, 0), (5, 255), (6, 0)], [], h⟩
def warrantorref27_Changes.j0 (J : Jn (AEnd × H)) (m0 : Nat) (x0 x4 x5 x6 : AV) (h : H) : Option (AEnd × H) := J [1, 1, 1, 0, 1, 0, 0, 1] [m0] ⟨[(0, x0), (4, x4), (5, x5), (6, x6)], [(0, 0), (4, 0), (5, 255), (6, 0)], [], h⟩
def warrantorref27_Changes.j1 (J : Jn (AEnd × H)) (x5 x47 : AV) (h : H) : Option (AEnd × H) := J [1, 1, 1, 1, 1, 0, 1] [] ⟨[(5, x5), (47, x47)], [(5, 255), (47, 0)], [], h⟩
theorem warrantorref27_Changes.f_eq {call : Cl} {n : Nat} {J : Jn (AEnd × H)} (hJ : warrantorref27_Changes.F call n J) (x0 : AV) (h : H) : warrantorref27_Changes.f J x0 h =
  (mkAgg [.list [] .cap, .int .i64 0, .int .i64 0] [(0, 1, AV.copy x0)]).bind fun v1 =>
  (bx h v1).bind fun p2 =>
  (call n_warrantorref02_Reader_Count [AV.canon p2.1, AV.canon (.int .i64 512)] p2.2).bind fun p3 => retOr p3.1 (fun r4p => some (AEnd.pan r4p, p3.2)) fun r4 =>
  warrantorref27_Changes.l0 J n x0 p2.1 (.list [] .cap) r4 p3.2 := (hJ _ _ _ (by kernel_rfl)).trans (by kernel_rfl)
theorem warrantorref27_Changes.l0_eq {call : Cl} {n : Nat} {J : Jn (AEnd × H)} (hJ : warrantorref27_Changes.F call n J) (m0 : Nat) (x0 x4 x5 x6 : AV) (h : H) : warrantorref27_Changes.l0 J (m0 + 1) x0 x4 x5 x6 h =
  (bin .gtr x6 (.int .i64 0)).bind fun v5 =>
  condV v5 (
    (nilOk x4).bind fun v6 =>
    (fAddr 2 v6).bind fun v7 =>
    (ldCell h v7).bind fun v8 =>
    (bin .eql v8 (.int .i64 0)).bind fun v9 =>
    condV v9 (
      warrantorref27_Changes.j0 J m0 x0 x4 x5 x6 h) (
      (call n_warrantorref02_Reader_End [AV.canon x4] h).bind fun p10 => retOr p10.1 (fun r11p => some (AEnd.pan r11p, p10.2)) fun r11 =>
      (nilOk x4).bind fun v12 =>
      (fAddr 2 v12).bind fun v13 =>
      (ldCell p10.2 v13).bind fun v14 =>
      (bin .neq v14 (.int .i64 0)).bind fun v15 =>
      condV v15 (
        warrantorref27_Changes.j1 J  x5 (.bool true) p10.2) (
        (call n_warrantorref27_Batch [AV.canon x5] p10.2).bind fun p16 => retOr p16.1 (fun _ => none) fun r17 =>
        (unOp .not r17).bind fun v18 =>
        condV v18 (
          warrantorref27_Changes.j1 J  x5 (.bool true) p16.2) (
          (call n_warrantorref27_Body [AV.canon x5] p16.2).bind fun p19 => retOr p19.1 (fun _ => none) fun r20 =>
          (bytesStr p19.2 r20).bind fun v21 =>
          (bytesStr p19.2 x0).bind fun v22 =>
          (bin .neq v21 v22).bind fun v23 =>
          warrantorref27_Changes.j1 J  x5 v23 p19.2)))) (
    (call n_warrantorref02_Reader_End [AV.canon x4] h).bind fun p24 => retOr p24.1 (fun r25p => some (AEnd.pan r25p, p24.2)) fun r25 =>
    (nilOk x4).bind fun v26 =>
    (fAddr 2 v26).bind fun v27 =>
    (ldCell p24.2 v27).bind fun v28 =>
    (bin .neq v28 (.int .i64 0)).bind fun v29 =>
    condV v29 (
      warrantorref27_Changes.j1 J  x5 (.bool true) p24.2) (
      (call n_warrantorref27_Batch [AV.canon x5] p24.2).bind fun p30 => retOr p30.1 (fun _ => none) fun r31 =>
      (unOp .not r31).bind fun v32 =>
      condV v32 (
        warrantorref27_Changes.j1 J  x5 (.bool true) p30.2) (
        (call n_warrantorref27_Body [AV.canon x5] p30.2).bind fun p33 => retOr p33.1 (fun _ => none) fun r34 =>
        (bytesStr p33.2 r34).bind fun v35 =>
        (bytesStr p33.2 x0).bind fun v36 =>
        (bin .neq v35 v36).bind fun v37 =>
        warrantorref27_Changes.j1 J  x5 v37 p33.2))) := (hJ _ _ _ (by kernel_rfl)).trans (by kernel_rfl)
theorem warrantorref27_Changes.j0_eq {call : Cl} {n : Nat} {J : Jn (AEnd × H)} (hJ : warrantorref27_Changes.F call n J) (m0 : Nat) (x0 x4 x5 x6 : AV) (h : H) : warrantorref27_Changes.j0 J m0 x0 x4 x5 x6 h =
  (call n_warrantorref27_change [AV.canon x4] h).bind fun p38 => retOr p38.1 (fun r39p => some (AEnd.pan r39p, p38.2)) fun r39 =>
  (mkRows 11 [.int .i64 0, .int .u64 0, .int .i64 0, .int .i64 0, .str [], .str [], .int .i64 0, .str [], .int .i64 0, .int .i64 0, .str []] 1 [(0, r39)]).bind fun v40 =>
  (apSlice 11 120 false true p38.2 x5 v40).bind fun v41 =>
  (bin .sub x6 (.int .i64 1)).bind fun v42 =>
  warrantorref27_Changes.l0 J m0 x0 x4 v41 v42 p38.2 := (hJ _ _ _ (by kernel_rfl)).trans (by kernel_rfl)
theorem warrantorref27_Changes.j1_eq {call : Cl} {n : Nat} {J : Jn (AEnd × H)} (hJ : warrantorref27_Changes.F call n J) (x5 x47 : AV) (h : H) : warrantorref27_Changes.j1 J  x5 x47 h =
  condV x47 (
    some (AEnd.ret (.tuple [(.list [] .cap), (.bool false)]), h)) (
    some (AEnd.ret (.tuple [x5, (.bool true)]), h)) := (hJ _ _ _ (by kernel_rfl)).trans (by kernel_rfl)
/-! ### warrantor/warrantorref27.Body: function 28 -/
noncomputable def warrantorref27_Body.A : FAnn := { nv := 7, mv := [(4, 0), (6, 0), (7, 0), (9, 0), (11, 0), (13, 0), (14, 0)], ld := [], lst := [], obj := [(5, 9)], q := [69, 74], raw := [] }
noncomputable def warrantorref27_Body.an : Ann := .mk none .nil (.mk none .nil (.mk none (.mk none .nil (.mk none (.mk none (.mk (some [(0, 0), (3, 255), (4, 0)]) .nil (.mk none (.mk none (.mk none .nil (.mk none .nil (.mk none .nil (.mk none (.mk none .nil (.mk (some [(0, 0), (3, 255), (4, 0), (5, 0), (6, 0), (50, 0)]) .nil .nil)) (.mk (some [(0, 0), (3, 255), (4, 0), (5, 0), (6, 0)]) .nil (.mk (some [(0, 0), (3, 255), (4, 0), (5, 0), (6, 0)]) .nil (.mk (some [(0, 0), (3, 255), (4, 0), (6, 0), (75, 0)]) .nil .nil))))))) .nil) .nil)) .nil) .nil)) .nil))
noncomputable abbrev warrantorref27_Body.c : Code := Tryz.f28.body.getD .skip
noncomputable def warrantorref27_Body.J (call : Cl) (n : Nat) : Jn (AEnd × H) := realJ Tryz.prog warrantorref27_Body.A call Tryz.f28 warrantorref27_Body.an warrantorref27_Body.c n
abbrev warrantorref27_Body.F (call : Cl) (n : Nat) (J : Jn (AEnd × H)) : Prop := JFix Tryz.prog warrantorref27_Body.A call Tryz.f28 warrantorref27_Body.an warrantorref27_Body.c n J
def warrantorref27_Body.f (J : Jn (AEnd × H)) (x0 : AV) (h : H) : Option (AEnd × H) := J [] [] ⟨[(0, x0)], [], [], h⟩
def warrantorref27_Body.l0 (J : Jn (AEnd × H)) (m0 : Nat) (x0 x3 x4 : AV) (h : H) : Option (AEnd × H) := J [1, 1, 0, 1, 0] [m0] ⟨[(0, x0), (3, x3), (4, x4)], [(0, 0), (3, 255), (4, 0)], [], h⟩
def warrantorref27_Body.j1 (J : Jn (AEnd × H)) (m0 : Nat) (x0 x3 x4 x5 x6 x50 : AV) (h : H) : Option (AEnd × H) := J [1, 1, 0, 1, 0, 0, 1, 0, 0, 1, 1, 1, 0, 1] [m0] ⟨[(0, x0), (3, x3), (4, x4), (5, x5), (6, x6), (50, x50)], [(0, 0), (3, 255), (4, 0), (5, 0), (6, 0), (50, 0)], [], h⟩
def warrantorref27_Body.j0 (J : Jn (AEnd × H)) (m0 : Nat) (x0 x3 x4 x5 x6 : AV) (h : H) : Option (AEnd × H) := J [1, 1, 0, 1, 0, 0, 1, 0, 0, 1, 1, 1, 1] [m0] ⟨[(0, x0), (3, x3), (4, x4), (5, x5), (6, x6)], [(0, 0), (3, 255), (4, 0), (5, 0), (6, 0)], [], h⟩
def warrantorref27_Body.j2 (J : Jn (AEnd × H)) (m0 : Nat) (x0 x3 x4 x5 x6 : AV) (h : H) : Option (AEnd × H) := J [1, 1, 0, 1, 0, 0, 1, 0, 0, 1, 1, 1, 1, 1] [m0] ⟨[(0, x0), (3, x3), (4, x4), (5, x5), (6, x6)], [(0, 0), (3, 255), (4, 0), (5, 0), (6, 0)], [], h⟩
def warrantorref27_Body.j3 (J : Jn (AEnd × H)) (m0 : Nat) (x0 x3 x4 x6 x75 : AV) (h : H) : Option (AEnd × H) := J [1, 1, 0, 1, 0, 0, 1, 0, 0, 1, 1, 1, 1, 1, 1] [m0] ⟨[(0, x0), (3, x3), (4, x4), (6, x6), (75, x75)], [(0, 0), (3, 255), (4, 0), (6, 0), (75, 0)], [], h⟩
theorem warrantorref27_Body.f_eq {call : Cl} {n : Nat} {J : Jn (AEnd × H)} (hJ : warrantorref27_Body.F call n J) (x0 : AV) (h : H) : warrantorref27_Body.f J x0 h =
  (lnSl x0).bind fun v1 =>
  (call n_warrantorref02_Num [AV.canon v1] h).bind fun p2 => retOr p2.1 (fun r3p => some (AEnd.pan r3p, p2.2)) fun r3 =>
  warrantorref27_Body.l0 J n x0 r3 (.int .i64 0) p2.2 := (hJ _ _ _ (by kernel_rfl)).trans (by kernel_rfl)
theorem warrantorref27_Body.l0_eq {call : Cl} {n : Nat} {J : Jn (AEnd × H)} (hJ : warrantorref27_Body.F call n J) (m0 : Nat) (x0 x3 x4 : AV) (h : H) : warrantorref27_Body.l0 J (m0 + 1) x0 x3 x4 h =
  (lnSl x0).bind fun v4 =>
  (bin .lss x4 v4).bind fun v5 =>
  condV v5 (
    let h6 : H := h ++ [.arr [.int .i64 0, .int .u64 0, .int .i64 0, .int .i64 0, .str [], .str [], .int .i64 0, .str [], .int .i64 0, .int .i64 0, .str []] false]
    (ixSlice 11 x0 x4).bind fun v7 =>
    (ldAgg 11 h6 v7).bind fun v8 =>
    (ixSlice 11 x0 x4).bind fun v9 =>
    (fAddr 1 v9).bind fun v10 =>
    (ldAgg 10 h6 v10).bind fun v11 =>
    (slotOp h.length [.int .i64 0, .int .u64 0, .int .i64 0, .int .i64 0, .str [], .str [], .int .i64 0, .str [], .int .i64 0, .int .i64 0, .str []] h6).bind fun v12 =>
    let h13 : H := h6 ++ [.arr [.int .u64 0, .int .i64 0, .int .i64 0, .str [], .str [], .int .i64 0, .str [], .int .i64 0, .int .i64 0, .str []] false]
    (stN 11 h13 v12 (AV.copy v8)).bind fun p14 =>
    whenB (eqO (ldAgg 10 p14.2 v10) v11) (
      (stN 10 p14.2 (.ptr h6.length 0) (AV.copy v11)).bind fun p15 =>
      (fAddr 0 v12).bind fun v16 =>
      (ldCell p15.2 v16).bind fun v17 =>
      (call n_warrantorref02_Num [AV.canon v17] p15.2).bind fun p18 => retOr p18.1 (fun r19p => some (AEnd.pan r19p, p18.2)) fun r19 =>
      (apSlice 1 1 true true p18.2 x3 r19).bind fun v20 =>
      (fAddr 0 (.ptr h6.length 0)).bind fun v21 =>
      (ldCell p18.2 v21).bind fun v22 =>
      (bin .rem v22 (.int .u64 4294967296)).bind fun v23 =>
      (cvInt .u32 v23).bind fun v24 =>
      (call n_warrantorref02_Word [AV.canon v24] p18.2).bind fun p25 => retOr p25.1 (fun _ => none) fun r26 =>
      (apSlice 1 1 true true p25.2 v20 r26).bind fun v27 =>
      (fAddr 0 (.ptr h6.length 0)).bind fun v28 =>
      (ldCell p25.2 v28).bind fun v29 =>
      (bin .quo v29 (.int .u64 4294967296)).bind fun v30 =>
      (cvInt .u32 v30).bind fun v31 =>
      (call n_warrantorref02_Word [AV.canon v31] p25.2).bind fun p32 => retOr p32.1 (fun _ => none) fun r33 =>
      (apSlice 1 1 true true p32.2 v27 r33).bind fun v34 =>
      (fAddr 0 v12).bind fun v35 =>
      (ldCell p32.2 v35).bind fun v36 =>
      (bin .eql v36 (.int .i64 1)).bind fun v37 =>
      condV v37 (
        warrantorref27_Body.j1 J m0 x0 v34 x4 v12 (.ptr h6.length 0) (.bool true) p32.2) (
        (fAddr 0 v12).bind fun v38 =>
        (ldCell p32.2 v38).bind fun v39 =>
        (bin .eql v39 (.int .i64 5)).bind fun v40 =>
        warrantorref27_Body.j1 J m0 x0 v34 x4 v12 (.ptr h6.length 0) v40 p32.2))) (
    some (AEnd.ret x3, h)) := (hJ _ _ _ (by kernel_rfl)).trans (by kernel_rfl)
theorem warrantorref27_Body.j1_eq {call : Cl} {n : Nat} {J : Jn (AEnd × H)} (hJ : warrantorref27_Body.F call n J) (m0 : Nat) (x0 x3 x4 x5 x6 x50 : AV) (h : H) : warrantorref27_Body.j1 J m0 x0 x3 x4 x5 x6 x50 h =
  condV x50 (
    (fAddr 1 x6).bind fun v41 =>
    (ldAgg 6 h v41).bind fun v42 =>
    (call n_warrantorref27_alarm [AV.canon v42] h).bind fun p43 => retOr p43.1 (fun r44p => some (AEnd.pan r44p, p43.2)) fun r44 =>
    (apSlice 1 1 true true p43.2 x3 r44).bind fun v45 =>
    warrantorref27_Body.j0 J m0 x0 v45 x4 x5 x6 p43.2) (
    warrantorref27_Body.j0 J m0 x0 x3 x4 x5 x6 h) := (hJ _ _ _ (by kernel_rfl)).trans (by kernel_rfl)
theorem warrantorref27_Body.j0_eq {call : Cl} {n : Nat} {J : Jn (AEnd × H)} (hJ : warrantorref27_Body.F call n J) (m0 : Nat) (x0 x3 x4 x5 x6 : AV) (h : H) : warrantorref27_Body.j0 J m0 x0 x3 x4 x5 x6 h =
  (fAddr 0 x5).bind fun v46 =>
  (ldCell h v46).bind fun v47 =>
  (bin .eql v47 (.int .i64 5)).bind fun v48 =>
  condV v48 (
    (fAddr 7 x6).bind fun v49 =>
    (ldCell h v49).bind fun v50 =>
    (call n_warrantorref02_Num [AV.canon v50] h).bind fun p51 => retOr p51.1 (fun _ => none) fun r52 =>
    (apSlice 1 1 true true p51.2 x3 r52).bind fun v53 =>
    (fAddr 8 x6).bind fun v54 =>
    (ldCell p51.2 v54).bind fun v55 =>
    (call n_warrantorref02_Num [AV.canon v55] p51.2).bind fun p56 => retOr p56.1 (fun _ => none) fun r57 =>
    (apSlice 1 1 true true p56.2 v53 r57).bind fun v58 =>
    warrantorref27_Body.j2 J m0 x0 v58 x4 x5 x6 p56.2) (
    warrantorref27_Body.j2 J m0 x0 x3 x4 x5 x6 h) := (hJ _ _ _ (by kernel_rfl)).trans (by kernel_rfl)
theorem warrantorref27_Body.j2_eq {call : Cl} {n : Nat} {J : Jn (AEnd × H)} (hJ : warrantorref27_Body.F call n J) (m0 : Nat) (x0 x3 x4 x5 x6 : AV) (h : H) : warrantorref27_Body.j2 J m0 x0 x3 x4 x5 x6 h =
  (fAddr 0 x5).bind fun v59 =>
  (ldCell h v59).bind fun v60 =>
  (bin .eql v60 (.int .i64 2)).bind fun v61 =>
  condV v61 (
    warrantorref27_Body.j3 J m0 x0 x3 x4 x6 (.bool true) h) (
    (fAddr 0 x5).bind fun v62 =>
    (ldCell h v62).bind fun v63 =>
    (bin .eql v63 (.int .i64 5)).bind fun v64 =>
    warrantorref27_Body.j3 J m0 x0 x3 x4 x6 v64 h) := (hJ _ _ _ (by kernel_rfl)).trans (by kernel_rfl)
theorem warrantorref27_Body.j3_eq {call : Cl} {n : Nat} {J : Jn (AEnd × H)} (hJ : warrantorref27_Body.F call n J) (m0 : Nat) (x0 x3 x4 x6 x75 : AV) (h : H) : warrantorref27_Body.j3 J m0 x0 x3 x4 x6 x75 h =
  condV x75 (
    (fAddr 9 x6).bind fun v65 =>
    (ldCell h v65).bind fun v66 =>
    (call n_warrantorref02_Text [AV.canon v66] h).bind fun p67 => retOr p67.1 (fun r68p => some (AEnd.pan r68p, p67.2)) fun r68 =>
    (apSlice 1 1 true true p67.2 x3 r68).bind fun v69 =>
    (bin .add x4 (.int .i64 1)).bind fun v70 =>
    warrantorref27_Body.l0 J m0 x0 v69 v70 p67.2) (
    (bin .add x4 (.int .i64 1)).bind fun v71 =>
    warrantorref27_Body.l0 J m0 x0 x3 v71 h) := (hJ _ _ _ (by kernel_rfl)).trans (by kernel_rfl)
/-! ### warrantor/warrantorref03.Turn: function 29 -/
noncomputable def warrantorref03_Turn.A : FAnn := { nv := 12, mv := [(1, 1), (4, 0), (10, 0), (11, 0), (12, 4), (12, 8), (13, 0), (14, 0)], ld := [], lst := [], obj := [], q := [], raw := [] }
noncomputable def warrantorref03_Turn.an : Ann := .mk none .nil (.mk none .nil (.mk none (.mk none .nil (.mk none (.mk none (.mk (some [(1, 0), (2, 0), (7, 255), (8, 0)]) .nil (.mk none (.mk none (.mk none (.mk none .nil (.mk (some [(1, 0), (2, 0), (7, 255), (8, 0), (30, 0)]) (.mk none .nil (.mk none .nil (.mk none (.mk none .nil (.mk none (.mk none (.mk (some [(1, 0), (2, 0), (7, 255), (8, 0), (9, 0), (10, 0), (11, 0)]) .nil .nil) .nil) .nil)) .nil))) .nil)) .nil) .nil) .nil)) .nil) .nil)) .nil))
noncomputable abbrev warrantorref03_Turn.c : Code := Tryz.f29.body.getD .skip
noncomputable def warrantorref03_Turn.J (call : Cl) (n : Nat) : Jn (AEnd × H) := realJ Tryz.prog warrantorref03_Turn.A call Tryz.f29 warrantorref03_Turn.an warrantorref03_Turn.c n
abbrev warrantorref03_Turn.F (call : Cl) (n : Nat) (J : Jn (AEnd × H)) : Prop := JFix Tryz.prog warrantorref03_Turn.A call Tryz.f29 warrantorref03_Turn.an warrantorref03_Turn.c n J
def warrantorref03_Turn.f (J : Jn (AEnd × H)) (x0 x1 x2 : AV) (h : H) : Option (AEnd × H) := J [] [] ⟨[(0, x0), (1, x1), (2, x2)], [], [], h⟩
def warrantorref03_Turn.l0 (J : Jn (AEnd × H)) (m0 : Nat) (x1 x2 x7 x8 : AV) (h : H) : Option (AEnd × H) := J [1, 1, 0, 1, 0] [m0] ⟨[(1, x1), (2, x2), (7, x7), (8, x8)], [(1, 0), (2, 0), (7, 255), (8, 0)], [], h⟩
def warrantorref03_Turn.j0 (J : Jn (AEnd × H)) (m0 : Nat) (x1 x2 x7 x8 x30 : AV) (h : H) : Option (AEnd × H) := J [1, 1, 0, 1, 0, 0, 1, 0, 0, 0, 1] [m0] ⟨[(1, x1), (2, x2), (7, x7), (8, x8), (30, x30)], [(1, 0), (2, 0), (7, 255), (8, 0), (30, 0)], [], h⟩
def warrantorref03_Turn.l1 (J : Jn (AEnd × H)) (m0 m1 : Nat) (x1 x2 x7 x8 x9 x10 x11 : AV) (h : H) : Option (AEnd × H) := J [1, 1, 0, 1, 0, 0, 1, 0, 0, 0, 1, 0, 1, 1, 0, 1, 0] [m0, m1] ⟨[(1, x1), (2, x2), (7, x7), (8, x8), (9, x9), (10, x10), (11, x11)], [(1, 0), (2, 0), (7, 255), (8, 0), (9, 0), (10, 0), (11, 0)], [], h⟩
theorem warrantorref03_Turn.f_eq {call : Cl} {n : Nat} {J : Jn (AEnd × H)} (hJ : warrantorref03_Turn.F call n J) (x0 x1 x2 : AV) (h : H) : warrantorref03_Turn.f J x0 x1 x2 h =
  (mkRows 1 [.int .u8 0] 0 []).bind fun v1 =>
  (apSlice 1 1 true false h v1 x0).bind fun v2 =>
  warrantorref03_Turn.l0 J n x1 x2 v2 (.int .i64 0) h := (hJ _ _ _ (by kernel_rfl)).trans (by kernel_rfl)
theorem warrantorref03_Turn.l0_eq {call : Cl} {n : Nat} {J : Jn (AEnd × H)} (hJ : warrantorref03_Turn.F call n J) (m0 : Nat) (x1 x2 x7 x8 : AV) (h : H) : warrantorref03_Turn.l0 J (m0 + 1) x1 x2 x7 x8 h =
  (bin .lss x8 (.int .i64 32)).bind fun v3 =>
  condV v3 (
    (bin .rem x2 (.int .u32 2)).bind fun v4 =>
    (bin .eql v4 (.int .u32 1)).bind fun v5 =>
    condV v5 (
      (bin .add x1 x8).bind fun v6 =>
      (lnSl x7).bind fun v7 =>
      (bin .mul (.int .i64 8) v7).bind fun v8 =>
      (bin .lss v6 v8).bind fun v9 =>
      warrantorref03_Turn.j0 J m0 x1 x2 x7 x8 v9 h) (
      warrantorref03_Turn.j0 J m0 x1 x2 x7 x8 (.bool false) h)) (
    some (AEnd.ret x7, h)) := (hJ _ _ _ (by kernel_rfl)).trans (by kernel_rfl)
theorem warrantorref03_Turn.j0_eq {call : Cl} {n : Nat} {J : Jn (AEnd × H)} (hJ : warrantorref03_Turn.F call n J) (m0 : Nat) (x1 x2 x7 x8 x30 : AV) (h : H) : warrantorref03_Turn.j0 J m0 x1 x2 x7 x8 x30 h =
  condV x30 (
    (bin .add x1 x8).bind fun v10 =>
    warrantorref03_Turn.l1 J m0 n x1 x2 x7 x8 v10 (.int .u8 1) (.int .i64 0) h) (
    (bin .quo x2 (.int .u32 2)).bind fun v11 =>
    (bin .add x8 (.int .i64 1)).bind fun v12 =>
    warrantorref03_Turn.l0 J m0 x1 v11 x7 v12 h) := (hJ _ _ _ (by kernel_rfl)).trans (by kernel_rfl)
theorem warrantorref03_Turn.l1_eq {call : Cl} {n : Nat} {J : Jn (AEnd × H)} (hJ : warrantorref03_Turn.F call n J) (m0 m1 : Nat) (x1 x2 x7 x8 x9 x10 x11 : AV) (h : H) : warrantorref03_Turn.l1 J m0 (m1 + 1) x1 x2 x7 x8 x9 x10 x11 h =
  (bin .rem x9 (.int .i64 8)).bind fun v13 =>
  (bin .lss x11 v13).bind fun v14 =>
  condV v14 (
    (bin .mul (.int .u8 2) x10).bind fun v15 =>
    (bin .add x11 (.int .i64 1)).bind fun v16 =>
    warrantorref03_Turn.l1 J m0 m1 x1 x2 x7 x8 x9 v15 v16 h) (
    (bin .quo x9 (.int .i64 8)).bind fun v17 =>
    (bin .quo x9 (.int .i64 8)).bind fun v18 =>
    (ixSlice 1 x7 v18).bind fun v19 =>
    (ldCell h v19).bind fun v20 =>
    (bin .xor v20 x10).bind fun v21 =>
    (ixSlice 1 x7 v17).bind fun v22 =>
    (stN 1 h v22 (AV.copy v21)).bind fun p23 =>
    (bin .quo x2 (.int .u32 2)).bind fun v24 =>
    (bin .add x8 (.int .i64 1)).bind fun v25 =>
    warrantorref03_Turn.l0 J m0 x1 v24 x7 v25 p23.2) := (hJ _ _ _ (by kernel_rfl)).trans (by kernel_rfl)
/-! ### warrantor/warrantorref29.Large: function 30 -/
noncomputable def warrantorref29_Large.A : FAnn := { nv := 4, mv := [(5, 0)], ld := [], lst := [], obj := [], q := [], raw := [] }
noncomputable def warrantorref29_Large.an : Ann := .mk none .nil (.mk none (.mk none .nil (.mk (some [(1, 0), (12, 0)]) .nil .nil)) (.mk (some [(1, 0)]) (.mk none .nil (.mk none (.mk none (.mk (some [(1, 0), (3, 0)]) .nil .nil) .nil) .nil)) .nil))
noncomputable abbrev warrantorref29_Large.c : Code := Tryz.f30.body.getD .skip
noncomputable def warrantorref29_Large.J (call : Cl) (n : Nat) : Jn (AEnd × H) := realJ Tryz.prog warrantorref29_Large.A call Tryz.f30 warrantorref29_Large.an warrantorref29_Large.c n
abbrev warrantorref29_Large.F (call : Cl) (n : Nat) (J : Jn (AEnd × H)) : Prop := JFix Tryz.prog warrantorref29_Large.A call Tryz.f30 warrantorref29_Large.an warrantorref29_Large.c n J
def warrantorref29_Large.f (J : Jn (AEnd × H)) (x0 : AV) (h : H) : Option (AEnd × H) := J [] [] ⟨[(0, x0)], [], [], h⟩
def warrantorref29_Large.j1 (J : Jn (AEnd × H)) (x1 x12 : AV) (h : H) : Option (AEnd × H) := J [1, 0, 1] [] ⟨[(1, x1), (12, x12)], [(1, 0), (12, 0)], [], h⟩
def warrantorref29_Large.j0 (J : Jn (AEnd × H)) (x1 : AV) (h : H) : Option (AEnd × H) := J [1, 1] [] ⟨[(1, x1)], [(1, 0)], [], h⟩
def warrantorref29_Large.l0 (J : Jn (AEnd × H)) (m0 : Nat) (x1 x3 : AV) (h : H) : Option (AEnd × H) := J [1, 1, 0, 1, 0] [m0] ⟨[(1, x1), (3, x3)], [(1, 0), (3, 0)], [], h⟩
theorem warrantorref29_Large.f_eq {call : Cl} {n : Nat} {J : Jn (AEnd × H)} (hJ : warrantorref29_Large.F call n J) (x0 : AV) (h : H) : warrantorref29_Large.f J x0 h =
  (bx h (AV.copy x0)).bind fun p1 =>
  (fAddr 1 p1.1).bind fun v2 =>
  (ldCell p1.2 v2).bind fun v3 =>
  (call n_warrantorref29_LargeEntries [AV.canon v3, AV.canon (.int .i64 60)] p1.2).bind fun p4 => retOr p4.1 (fun r5p => some (AEnd.pan r5p, p4.2)) fun r5 =>
  condV r5 (
    warrantorref29_Large.j1 J  p1.1 (.bool true) p4.2) (
    (fAddr 2 p1.1).bind fun v6 =>
    (ldCell p4.2 v6).bind fun v7 =>
    (lnSl v7).bind fun v8 =>
    (bin .gtr v8 (.int .i64 30)).bind fun v9 =>
    warrantorref29_Large.j1 J  p1.1 v9 p4.2) := (hJ _ _ _ (by kernel_rfl)).trans (by kernel_rfl)
theorem warrantorref29_Large.j1_eq {call : Cl} {n : Nat} {J : Jn (AEnd × H)} (hJ : warrantorref29_Large.F call n J) (x1 x12 : AV) (h : H) : warrantorref29_Large.j1 J  x1 x12 h =
  condV x12 (
    some (AEnd.ret (.bool true), h)) (
    warrantorref29_Large.j0 J  x1 h) := (hJ _ _ _ (by kernel_rfl)).trans (by kernel_rfl)
theorem warrantorref29_Large.j0_eq {call : Cl} {n : Nat} {J : Jn (AEnd × H)} (hJ : warrantorref29_Large.F call n J) (x1 : AV) (h : H) : warrantorref29_Large.j0 J  x1 h =
  warrantorref29_Large.l0 J n x1 (.int .i64 0) h := (hJ _ _ _ (by kernel_rfl)).trans (by kernel_rfl)
theorem warrantorref29_Large.l0_eq {call : Cl} {n : Nat} {J : Jn (AEnd × H)} (hJ : warrantorref29_Large.F call n J) (m0 : Nat) (x1 x3 : AV) (h : H) : warrantorref29_Large.l0 J (m0 + 1) x1 x3 h =
  (fAddr 2 x1).bind fun v10 =>
  (ldCell h v10).bind fun v11 =>
  (lnSl v11).bind fun v12 =>
  (bin .lss x3 v12).bind fun v13 =>
  condV v13 (
    (fAddr 2 x1).bind fun v14 =>
    (ldCell h v14).bind fun v15 =>
    (ixSlice 1 v15 x3).bind fun v16 =>
    (ldCell h v16).bind fun v17 =>
    (call n_warrantorref27_Large [AV.canon v17, AV.canon (.int .i64 30)] h).bind fun p18 => retOr p18.1 (fun r19p => some (AEnd.pan r19p, p18.2)) fun r19 =>
    condV r19 (
      some (AEnd.ret (.bool true), p18.2)) (
      (bin .add x3 (.int .i64 1)).bind fun v20 =>
      warrantorref29_Large.l0 J m0 x1 v20 p18.2)) (
    some (AEnd.ret (.bool false), h)) := (hJ _ _ _ (by kernel_rfl)).trans (by kernel_rfl)
/-! ### warrantor/journal.Put: function 32 -/
noncomputable def journal_Put.A : FAnn := { nv := 10, mv := [(3, 0), (7, 0), (9, 0), (10, 0), (10, 1), (12, 0)], ld := [], lst := [], obj := [], q := [], raw := [] }
noncomputable def journal_Put.an : Ann := .mk none .nil (.mk none .nil (.mk none .nil (.mk none (.mk none .nil (.mk none (.mk none (.mk (some [(4, 1), (22, 0), (23, 0), (24, 0)]) .nil .nil) .nil) .nil)) .nil)))
noncomputable abbrev journal_Put.c : Code := Tryz.f32.body.getD .skip
noncomputable def journal_Put.J (call : Cl) (n : Nat) : Jn (AEnd × H) := realJ Tryz.prog journal_Put.A call Tryz.f32 journal_Put.an journal_Put.c n
abbrev journal_Put.F (call : Cl) (n : Nat) (J : Jn (AEnd × H)) : Prop := JFix Tryz.prog journal_Put.A call Tryz.f32 journal_Put.an journal_Put.c n J
def journal_Put.f (J : Jn (AEnd × H)) (x0 : AV) (h : H) : Option (AEnd × H) := J [] [] ⟨[(0, x0)], [], [], h⟩
def journal_Put.l0 (J : Jn (AEnd × H)) (m0 : Nat) (x4 x22 x23 x24 : AV) (h : H) : Option (AEnd × H) := J [1, 1, 1, 0, 1, 0] [m0] ⟨[(4, x4), (22, x22), (23, x23), (24, x24)], [(4, 1), (22, 0), (23, 0), (24, 0)], [], h⟩
theorem journal_Put.f_eq {call : Cl} {n : Nat} {J : Jn (AEnd × H)} (hJ : journal_Put.F call n J) (x0 : AV) (h : H) : journal_Put.f J x0 h =
  (bx h (AV.copy x0)).bind fun p1 =>
  (fAddr 0 p1.1).bind fun v2 =>
  (ldCell p1.2 v2).bind fun v3 =>
  (fAddr 1 p1.1).bind fun v4 =>
  (ldCell p1.2 v4).bind fun v5 =>
  (call n_journal_Image [AV.canon v3, AV.canon v5] p1.2).bind fun p6 => retOr p6.1 (fun r7p => some (AEnd.pan r7p, p6.2)) fun r7 =>
  (exTuple 0 r7).bind fun v8 =>
  (exTuple 1 r7).bind fun v9 =>
  (bin .neq v9 (.int .i64 0)).bind fun v10 =>
  condV v10 (
    some (AEnd.ret (.tuple [(.list [] .cap), v9]), p6.2)) (
    (fAddr 2 p1.1).bind fun v11 =>
    (ldCell p6.2 v11).bind fun v12 =>
    (lnSl v12).bind fun v13 =>
    journal_Put.l0 J n v8 v12 v13 (.int .i64 0) p6.2) := (hJ _ _ _ (by kernel_rfl)).trans (by kernel_rfl)
theorem journal_Put.l0_eq {call : Cl} {n : Nat} {J : Jn (AEnd × H)} (hJ : journal_Put.F call n J) (m0 : Nat) (x4 x22 x23 x24 : AV) (h : H) : journal_Put.l0 J (m0 + 1) x4 x22 x23 x24 h =
  (bin .lss x24 x23).bind fun v14 =>
  condV v14 (
    (ixSlice 1 x22 x24).bind fun v15 =>
    (ldCell h v15).bind fun v16 =>
    (call n_rec_Put [AV.canon v16] h).bind fun p17 => retOr p17.1 (fun r18p => some (AEnd.pan r18p, p17.2)) fun r18 =>
    (exTuple 0 r18).bind fun v19 =>
    (exTuple 1 r18).bind fun v20 =>
    (bin .neq v20 (.int .i64 0)).bind fun v21 =>
    condV v21 (
      some (AEnd.ret (.tuple [(.list [] .cap), v20]), p17.2)) (
      (apSlice 1 1 true true p17.2 x4 v19).bind fun v22 =>
      (bin .add x24 (.int .i64 1)).bind fun v23 =>
      journal_Put.l0 J m0 v22 x22 x23 v23 p17.2)) (
    some (AEnd.ret (.tuple [x4, (.int .i64 0)]), h)) := (hJ _ _ _ (by kernel_rfl)).trans (by kernel_rfl)
/-! ### warrantor/warrantorref29.Check: function 33 -/
noncomputable def warrantorref29_Check.A : FAnn := { nv := 4, mv := [(5, 0)], ld := [], lst := [], obj := [], q := [], raw := [] }
noncomputable def warrantorref29_Check.an : Ann := .mk none .nil (.mk none (.mk none .nil (.mk (some [(1, 0), (13, 0)]) .nil .nil)) (.mk (some [(1, 0)]) (.mk none .nil (.mk none (.mk none (.mk (some [(1, 0), (3, 0)]) .nil .nil) .nil) .nil)) .nil))
noncomputable abbrev warrantorref29_Check.c : Code := Tryz.f33.body.getD .skip
noncomputable def warrantorref29_Check.J (call : Cl) (n : Nat) : Jn (AEnd × H) := realJ Tryz.prog warrantorref29_Check.A call Tryz.f33 warrantorref29_Check.an warrantorref29_Check.c n
abbrev warrantorref29_Check.F (call : Cl) (n : Nat) (J : Jn (AEnd × H)) : Prop := JFix Tryz.prog warrantorref29_Check.A call Tryz.f33 warrantorref29_Check.an warrantorref29_Check.c n J
def warrantorref29_Check.f (J : Jn (AEnd × H)) (x0 : AV) (h : H) : Option (AEnd × H) := J [] [] ⟨[(0, x0)], [], [], h⟩
def warrantorref29_Check.j1 (J : Jn (AEnd × H)) (x1 x13 : AV) (h : H) : Option (AEnd × H) := J [1, 0, 1] [] ⟨[(1, x1), (13, x13)], [(1, 0), (13, 0)], [], h⟩
def warrantorref29_Check.j0 (J : Jn (AEnd × H)) (x1 : AV) (h : H) : Option (AEnd × H) := J [1, 1] [] ⟨[(1, x1)], [(1, 0)], [], h⟩
def warrantorref29_Check.l0 (J : Jn (AEnd × H)) (m0 : Nat) (x1 x3 : AV) (h : H) : Option (AEnd × H) := J [1, 1, 0, 1, 0] [m0] ⟨[(1, x1), (3, x3)], [(1, 0), (3, 0)], [], h⟩
theorem warrantorref29_Check.f_eq {call : Cl} {n : Nat} {J : Jn (AEnd × H)} (hJ : warrantorref29_Check.F call n J) (x0 : AV) (h : H) : warrantorref29_Check.f J x0 h =
  (bx h (AV.copy x0)).bind fun p1 =>
  (fAddr 0 p1.1).bind fun v2 =>
  (ldCell p1.2 v2).bind fun v3 =>
  (call n_warrantorref29_Gen [AV.canon v3] p1.2).bind fun p4 => retOr p4.1 (fun r5p => some (AEnd.pan r5p, p4.2)) fun r5 =>
  (unOp .not r5).bind fun v6 =>
  condV v6 (
    warrantorref29_Check.j1 J  p1.1 (.bool true) p4.2) (
    (fAddr 1 p1.1).bind fun v7 =>
    (ldCell p4.2 v7).bind fun v8 =>
    (call n_warrantorref29_Stand [AV.canon v8] p4.2).bind fun p9 => retOr p9.1 (fun r10p => some (AEnd.pan r10p, p9.2)) fun r10 =>
    (unOp .not r10).bind fun v11 =>
    warrantorref29_Check.j1 J  p1.1 v11 p9.2) := (hJ _ _ _ (by kernel_rfl)).trans (by kernel_rfl)
theorem warrantorref29_Check.j1_eq {call : Cl} {n : Nat} {J : Jn (AEnd × H)} (hJ : warrantorref29_Check.F call n J) (x1 x13 : AV) (h : H) : warrantorref29_Check.j1 J  x1 x13 h =
  condV x13 (
    some (AEnd.ret (.int .i64 1), h)) (
    warrantorref29_Check.j0 J  x1 h) := (hJ _ _ _ (by kernel_rfl)).trans (by kernel_rfl)
theorem warrantorref29_Check.j0_eq {call : Cl} {n : Nat} {J : Jn (AEnd × H)} (hJ : warrantorref29_Check.F call n J) (x1 : AV) (h : H) : warrantorref29_Check.j0 J  x1 h =
  warrantorref29_Check.l0 J n x1 (.int .i64 0) h := (hJ _ _ _ (by kernel_rfl)).trans (by kernel_rfl)
theorem warrantorref29_Check.l0_eq {call : Cl} {n : Nat} {J : Jn (AEnd × H)} (hJ : warrantorref29_Check.F call n J) (m0 : Nat) (x1 x3 : AV) (h : H) : warrantorref29_Check.l0 J (m0 + 1) x1 x3 h =
  (fAddr 2 x1).bind fun v12 =>
  (ldCell h v12).bind fun v13 =>
  (lnSl v13).bind fun v14 =>
  (bin .lss x3 v14).bind fun v15 =>
  condV v15 (
    (fAddr 2 x1).bind fun v16 =>
    (ldCell h v16).bind fun v17 =>
    (ixSlice 1 v17 x3).bind fun v18 =>
    (ldCell h v18).bind fun v19 =>
    (call n_warrantorref27_Batch [AV.canon v19] h).bind fun p20 => retOr p20.1 (fun r21p => some (AEnd.pan r21p, p20.2)) fun r21 =>
    (unOp .not r21).bind fun v22 =>
    condV v22 (
      some (AEnd.ret (.int .i64 270), p20.2)) (
      (bin .add x3 (.int .i64 1)).bind fun v23 =>
      warrantorref29_Check.l0 J m0 x1 v23 p20.2)) (
    some (AEnd.ret (.int .i64 0), h)) := (hJ _ _ _ (by kernel_rfl)).trans (by kernel_rfl)
/-! ### warrantor/journal.Stand: function 35 -/
noncomputable def journal_Stand.A : FAnn := { nv := 5, mv := [(4, 10), (7, 0)], ld := [], lst := [], obj := [], q := [16], raw := [] }
noncomputable def journal_Stand.an : Ann := .mk none .nil (.mk none (.mk none .nil (.mk none (.mk none (.mk (some [(0, 0), (5, 0), (6, 0), (7, 0)]) .nil (.mk none .nil (.mk none (.mk none (.mk none .nil (.mk none .nil (.mk (some [(0, 0), (5, 0), (6, 0), (7, 0), (29, 0)]) .nil .nil))) .nil) .nil))) .nil) .nil)) .nil)
noncomputable abbrev journal_Stand.c : Code := Tryz.f35.body.getD .skip
noncomputable def journal_Stand.J (call : Cl) (n : Nat) : Jn (AEnd × H) := realJ Tryz.prog journal_Stand.A call Tryz.f35 journal_Stand.an journal_Stand.c n
abbrev journal_Stand.F (call : Cl) (n : Nat) (J : Jn (AEnd × H)) : Prop := JFix Tryz.prog journal_Stand.A call Tryz.f35 journal_Stand.an journal_Stand.c n J
def journal_Stand.f (J : Jn (AEnd × H)) (x0 : AV) (h : H) : Option (AEnd × H) := J [] [] ⟨[(0, x0)], [], [], h⟩
def journal_Stand.l0 (J : Jn (AEnd × H)) (m0 : Nat) (x0 x5 x6 x7 : AV) (h : H) : Option (AEnd × H) := J [1, 0, 1, 0] [m0] ⟨[(0, x0), (5, x5), (6, x6), (7, x7)], [(0, 0), (5, 0), (6, 0), (7, 0)], [], h⟩
def journal_Stand.j0 (J : Jn (AEnd × H)) (m0 : Nat) (x0 x5 x6 x7 x29 : AV) (h : H) : Option (AEnd × H) := J [1, 0, 1, 0, 0, 1, 1, 0, 0, 1, 1] [m0] ⟨[(0, x0), (5, x5), (6, x6), (7, x7), (29, x29)], [(0, 0), (5, 0), (6, 0), (7, 0), (29, 0)], [], h⟩
theorem journal_Stand.f_eq {call : Cl} {n : Nat} {J : Jn (AEnd × H)} (hJ : journal_Stand.F call n J) (x0 : AV) (h : H) : journal_Stand.f J x0 h =
  (lnSl x0).bind fun v1 =>
  journal_Stand.l0 J n x0 x0 v1 (.int .i64 0) h := (hJ _ _ _ (by kernel_rfl)).trans (by kernel_rfl)
theorem journal_Stand.l0_eq {call : Cl} {n : Nat} {J : Jn (AEnd × H)} (hJ : journal_Stand.F call n J) (m0 : Nat) (x0 x5 x6 x7 : AV) (h : H) : journal_Stand.l0 J (m0 + 1) x0 x5 x6 x7 h =
  (bin .lss x7 x6).bind fun v2 =>
  condV v2 (
    (ixSlice 10 x5 x7).bind fun v3 =>
    (ldAgg 10 h v3).bind fun v4 =>
    let h5 : H := h ++ [.arr [.int .u64 0, .int .i64 0, .int .i64 0, .str [], .str [], .int .i64 0, .str [], .int .i64 0, .int .i64 0, .str []] false]
    (stN 10 h5 (.ptr h.length 0) (AV.copy v4)).bind fun p6 =>
    (ldAgg 10 p6.2 (.ptr h.length 0)).bind fun v7 =>
    (call n_rec_Right [AV.canon v7] p6.2).bind fun p8 => retOr p8.1 (fun _ => none) fun r9 =>
    (unOp .not r9).bind fun v10 =>
    condV v10 (
      journal_Stand.j0 J m0 x0 x5 x6 x7 (.bool true) p8.2) (
      (bin .gtr x7 (.int .i64 0)).bind fun v11 =>
      condV v11 (
        (fAddr 0 (.ptr h.length 0)).bind fun v12 =>
        (ldCell p8.2 v12).bind fun v13 =>
        (bin .sub x7 (.int .i64 1)).bind fun v14 =>
        (ixSlice 10 x0 v14).bind fun v15 =>
        (fAddr 0 v15).bind fun v16 =>
        (ldCell p8.2 v16).bind fun v17 =>
        (bin .leq v13 v17).bind fun v18 =>
        journal_Stand.j0 J m0 x0 x5 x6 x7 v18 p8.2) (
        journal_Stand.j0 J m0 x0 x5 x6 x7 (.bool false) p8.2))) (
    (lnSl x0).bind fun v19 =>
    (bin .leq v19 (.int .i64 512)).bind fun v20 =>
    some (AEnd.ret (AV.copy v20), h)) := (hJ _ _ _ (by kernel_rfl)).trans (by kernel_rfl)
theorem journal_Stand.j0_eq {call : Cl} {n : Nat} {J : Jn (AEnd × H)} (hJ : journal_Stand.F call n J) (m0 : Nat) (x0 x5 x6 x7 x29 : AV) (h : H) : journal_Stand.j0 J m0 x0 x5 x6 x7 x29 h =
  condV x29 (
    some (AEnd.ret (.bool false), h)) (
    (bin .add x7 (.int .i64 1)).bind fun v21 =>
    journal_Stand.l0 J m0 x0 x5 x6 v21 h) := (hJ _ _ _ (by kernel_rfl)).trans (by kernel_rfl)
/-! ### warrantor/warrantorref29.Stand: function 36 -/
noncomputable def warrantorref29_Stand.A : FAnn := { nv := 4, mv := [(5, 0)], ld := [], lst := [], obj := [], q := [17], raw := [] }
noncomputable def warrantorref29_Stand.an : Ann := .mk none .nil (.mk none .nil (.mk none (.mk none .nil (.mk none (.mk none (.mk (some [(0, 0), (3, 0)]) .nil (.mk none (.mk none (.mk none .nil (.mk (some [(0, 0), (3, 0), (36, 0)]) .nil .nil)) .nil) .nil)) .nil) .nil)) .nil))
noncomputable abbrev warrantorref29_Stand.c : Code := Tryz.f36.body.getD .skip
noncomputable def warrantorref29_Stand.J (call : Cl) (n : Nat) : Jn (AEnd × H) := realJ Tryz.prog warrantorref29_Stand.A call Tryz.f36 warrantorref29_Stand.an warrantorref29_Stand.c n
abbrev warrantorref29_Stand.F (call : Cl) (n : Nat) (J : Jn (AEnd × H)) : Prop := JFix Tryz.prog warrantorref29_Stand.A call Tryz.f36 warrantorref29_Stand.an warrantorref29_Stand.c n J
def warrantorref29_Stand.f (J : Jn (AEnd × H)) (x0 : AV) (h : H) : Option (AEnd × H) := J [] [] ⟨[(0, x0)], [], [], h⟩
def warrantorref29_Stand.l0 (J : Jn (AEnd × H)) (m0 : Nat) (x0 x3 : AV) (h : H) : Option (AEnd × H) := J [1, 1, 0, 1, 0] [m0] ⟨[(0, x0), (3, x3)], [(0, 0), (3, 0)], [], h⟩
def warrantorref29_Stand.j0 (J : Jn (AEnd × H)) (m0 : Nat) (x0 x3 x36 : AV) (h : H) : Option (AEnd × H) := J [1, 1, 0, 1, 0, 0, 1, 0, 0, 1] [m0] ⟨[(0, x0), (3, x3), (36, x36)], [(0, 0), (3, 0), (36, 0)], [], h⟩
theorem warrantorref29_Stand.f_eq {call : Cl} {n : Nat} {J : Jn (AEnd × H)} (hJ : warrantorref29_Stand.F call n J) (x0 : AV) (h : H) : warrantorref29_Stand.f J x0 h =
  (lnSl x0).bind fun v1 =>
  (bin .gtr v1 (.int .i64 512)).bind fun v2 =>
  condV v2 (
    some (AEnd.ret (.bool false), h)) (
    warrantorref29_Stand.l0 J n x0 (.int .i64 0) h) := (hJ _ _ _ (by kernel_rfl)).trans (by kernel_rfl)
theorem warrantorref29_Stand.l0_eq {call : Cl} {n : Nat} {J : Jn (AEnd × H)} (hJ : warrantorref29_Stand.F call n J) (m0 : Nat) (x0 x3 : AV) (h : H) : warrantorref29_Stand.l0 J (m0 + 1) x0 x3 h =
  (lnSl x0).bind fun v3 =>
  (bin .lss x3 v3).bind fun v4 =>
  condV v4 (
    (ixSlice 10 x0 x3).bind fun v5 =>
    (ldAgg 10 h v5).bind fun v6 =>
    (call n_warrantorref27_Right [AV.canon v6] h).bind fun p7 => retOr p7.1 (fun _ => none) fun r8 =>
    (unOp .not r8).bind fun v9 =>
    condV v9 (
      warrantorref29_Stand.j0 J m0 x0 x3 (.bool true) p7.2) (
      (bin .gtr x3 (.int .i64 0)).bind fun v10 =>
      condV v10 (
        (ixSlice 10 x0 x3).bind fun v11 =>
        (fAddr 0 v11).bind fun v12 =>
        (ldCell p7.2 v12).bind fun v13 =>
        (bin .sub x3 (.int .i64 1)).bind fun v14 =>
        (ixSlice 10 x0 v14).bind fun v15 =>
        (fAddr 0 v15).bind fun v16 =>
        (ldCell p7.2 v16).bind fun v17 =>
        (bin .leq v13 v17).bind fun v18 =>
        warrantorref29_Stand.j0 J m0 x0 x3 v18 p7.2) (
        warrantorref29_Stand.j0 J m0 x0 x3 (.bool false) p7.2))) (
    some (AEnd.ret (.bool true), h)) := (hJ _ _ _ (by kernel_rfl)).trans (by kernel_rfl)
theorem warrantorref29_Stand.j0_eq {call : Cl} {n : Nat} {J : Jn (AEnd × H)} (hJ : warrantorref29_Stand.F call n J) (m0 : Nat) (x0 x3 x36 : AV) (h : H) : warrantorref29_Stand.j0 J m0 x0 x3 x36 h =
  condV x36 (
    some (AEnd.ret (.bool false), h)) (
    (bin .add x3 (.int .i64 1)).bind fun v19 =>
    warrantorref29_Stand.l0 J m0 x0 v19 h) := (hJ _ _ _ (by kernel_rfl)).trans (by kernel_rfl)
/-! ### warrantor/journal.Same: function 37 -/
noncomputable def journal_Same.A : FAnn := { nv := 4, mv := [], ld := [], lst := [], obj := [], q := [], raw := [] }
noncomputable def journal_Same.an : Ann := .nil
noncomputable abbrev journal_Same.c : Code := Tryz.f37.body.getD .skip
noncomputable def journal_Same.J (call : Cl) (n : Nat) : Jn (AEnd × H) := realJ Tryz.prog journal_Same.A call Tryz.f37 journal_Same.an journal_Same.c n
abbrev journal_Same.F (call : Cl) (n : Nat) (J : Jn (AEnd × H)) : Prop := JFix Tryz.prog journal_Same.A call Tryz.f37 journal_Same.an journal_Same.c n J
def journal_Same.f (J : Jn (AEnd × H)) (x0 x1 : AV) (h : H) : Option (AEnd × H) := J [] [] ⟨[(0, x0), (1, x1)], [], [], h⟩
theorem journal_Same.f_eq {call : Cl} {n : Nat} {J : Jn (AEnd × H)} (hJ : journal_Same.F call n J) (x0 x1 : AV) (h : H) : journal_Same.f J x0 x1 h =
  (bx h (AV.copy x0)).bind fun p1 =>
  (bx p1.2 (AV.copy x1)).bind fun p2 =>
  (fAddr 0 p1.1).bind fun v3 =>
  (ldCell p2.2 v3).bind fun v4 =>
  (fAddr 0 p2.1).bind fun v5 =>
  (ldCell p2.2 v5).bind fun v6 =>
  (bin .eql v4 v6).bind fun v7 =>
  condV v7 (
    (fAddr 1 p1.1).bind fun v8 =>
    (ldCell p2.2 v8).bind fun v9 =>
    (fAddr 1 p2.1).bind fun v10 =>
    (ldCell p2.2 v10).bind fun v11 =>
    (call n_slices_Equal_api_Entry_api_Entry [AV.canon v9, AV.canon v11] p2.2).bind fun p12 => retOr p12.1 (fun r13p => some (AEnd.pan r13p, p12.2)) fun r13 =>
    condV r13 (
      (fAddr 2 p1.1).bind fun v14 =>
      (ldCell p12.2 v14).bind fun v15 =>
      (fAddr 2 p2.1).bind fun v16 =>
      (ldCell p12.2 v16).bind fun v17 =>
      (call n_slices_EqualFunc_api_Change_api_Change_api_Change_api_Change [AV.canon v15, AV.canon v17, AV.canon (.func (.func n_rec_Same) [] [])] p12.2).bind fun p18 => retOr p18.1 (fun r19p => some (AEnd.pan r19p, p18.2)) fun r19 =>
      some (AEnd.ret (AV.copy r19), p18.2)) (
      some (AEnd.ret (AV.copy (.bool false)), p12.2))) (
    some (AEnd.ret (AV.copy (.bool false)), p2.2)) := (hJ _ _ _ (by kernel_rfl)).trans (by kernel_rfl)
/-! ### warrantor/warrantorref29.Same: function 38 -/
noncomputable def warrantorref29_Same.A : FAnn := { nv := 6, mv := [(5, 0)], ld := [], lst := [], obj := [], q := [20], raw := [] }
noncomputable def warrantorref29_Same.an : Ann := .mk none .nil (.mk none (.mk none .nil (.mk (some [(2, 0), (3, 0), (27, 0)]) .nil .nil)) (.mk (some [(2, 0), (3, 0)]) (.mk none .nil (.mk none (.mk none (.mk (some [(2, 0), (3, 0), (5, 0)]) .nil .nil) .nil) .nil)) .nil))
noncomputable abbrev warrantorref29_Same.c : Code := Tryz.f38.body.getD .skip
noncomputable def warrantorref29_Same.J (call : Cl) (n : Nat) : Jn (AEnd × H) := realJ Tryz.prog warrantorref29_Same.A call Tryz.f38 warrantorref29_Same.an warrantorref29_Same.c n
abbrev warrantorref29_Same.F (call : Cl) (n : Nat) (J : Jn (AEnd × H)) : Prop := JFix Tryz.prog warrantorref29_Same.A call Tryz.f38 warrantorref29_Same.an warrantorref29_Same.c n J
def warrantorref29_Same.f (J : Jn (AEnd × H)) (x0 x1 : AV) (h : H) : Option (AEnd × H) := J [] [] ⟨[(0, x0), (1, x1)], [], [], h⟩
def warrantorref29_Same.j1 (J : Jn (AEnd × H)) (x2 x3 x27 : AV) (h : H) : Option (AEnd × H) := J [1, 0, 1] [] ⟨[(2, x2), (3, x3), (27, x27)], [(2, 0), (3, 0), (27, 0)], [], h⟩
def warrantorref29_Same.j0 (J : Jn (AEnd × H)) (x2 x3 : AV) (h : H) : Option (AEnd × H) := J [1, 1] [] ⟨[(2, x2), (3, x3)], [(2, 0), (3, 0)], [], h⟩
def warrantorref29_Same.l0 (J : Jn (AEnd × H)) (m0 : Nat) (x2 x3 x5 : AV) (h : H) : Option (AEnd × H) := J [1, 1, 0, 1, 0] [m0] ⟨[(2, x2), (3, x3), (5, x5)], [(2, 0), (3, 0), (5, 0)], [], h⟩
theorem warrantorref29_Same.f_eq {call : Cl} {n : Nat} {J : Jn (AEnd × H)} (hJ : warrantorref29_Same.F call n J) (x0 x1 : AV) (h : H) : warrantorref29_Same.f J x0 x1 h =
  (bx h (AV.copy x0)).bind fun p1 =>
  (bx p1.2 (AV.copy x1)).bind fun p2 =>
  (fAddr 0 p1.1).bind fun v3 =>
  (ldCell p2.2 v3).bind fun v4 =>
  (fAddr 0 p2.1).bind fun v5 =>
  (ldCell p2.2 v5).bind fun v6 =>
  (bin .neq v4 v6).bind fun v7 =>
  condV v7 (
    warrantorref29_Same.j1 J  p1.1 p2.1 (.bool true) p2.2) (
    (fAddr 1 p1.1).bind fun v8 =>
    (ldCell p2.2 v8).bind fun v9 =>
    (fAddr 1 p2.1).bind fun v10 =>
    (ldCell p2.2 v10).bind fun v11 =>
    (call n_warrantorref29_SameEntries [AV.canon v9, AV.canon v11] p2.2).bind fun p12 => retOr p12.1 (fun r13p => some (AEnd.pan r13p, p12.2)) fun r13 =>
    (unOp .not r13).bind fun v14 =>
    condV v14 (
      warrantorref29_Same.j1 J  p1.1 p2.1 (.bool true) p12.2) (
      (fAddr 2 p1.1).bind fun v15 =>
      (ldCell p12.2 v15).bind fun v16 =>
      (lnSl v16).bind fun v17 =>
      (fAddr 2 p2.1).bind fun v18 =>
      (ldCell p12.2 v18).bind fun v19 =>
      (lnSl v19).bind fun v20 =>
      (bin .neq v17 v20).bind fun v21 =>
      warrantorref29_Same.j1 J  p1.1 p2.1 v21 p12.2)) := (hJ _ _ _ (by kernel_rfl)).trans (by kernel_rfl)
theorem warrantorref29_Same.j1_eq {call : Cl} {n : Nat} {J : Jn (AEnd × H)} (hJ : warrantorref29_Same.F call n J) (x2 x3 x27 : AV) (h : H) : warrantorref29_Same.j1 J  x2 x3 x27 h =
  condV x27 (
    some (AEnd.ret (.bool false), h)) (
    warrantorref29_Same.j0 J  x2 x3 h) := (hJ _ _ _ (by kernel_rfl)).trans (by kernel_rfl)
theorem warrantorref29_Same.j0_eq {call : Cl} {n : Nat} {J : Jn (AEnd × H)} (hJ : warrantorref29_Same.F call n J) (x2 x3 : AV) (h : H) : warrantorref29_Same.j0 J  x2 x3 h =
  warrantorref29_Same.l0 J n x2 x3 (.int .i64 0) h := (hJ _ _ _ (by kernel_rfl)).trans (by kernel_rfl)
theorem warrantorref29_Same.l0_eq {call : Cl} {n : Nat} {J : Jn (AEnd × H)} (hJ : warrantorref29_Same.F call n J) (m0 : Nat) (x2 x3 x5 : AV) (h : H) : warrantorref29_Same.l0 J (m0 + 1) x2 x3 x5 h =
  (fAddr 2 x2).bind fun v22 =>
  (ldCell h v22).bind fun v23 =>
  (lnSl v23).bind fun v24 =>
  (bin .lss x5 v24).bind fun v25 =>
  condV v25 (
    (fAddr 2 x2).bind fun v26 =>
    (ldCell h v26).bind fun v27 =>
    (ixSlice 1 v27 x5).bind fun v28 =>
    (ldCell h v28).bind fun v29 =>
    (fAddr 2 x3).bind fun v30 =>
    (ldCell h v30).bind fun v31 =>
    (ixSlice 1 v31 x5).bind fun v32 =>
    (ldCell h v32).bind fun v33 =>
    (call n_warrantorref27_Same [AV.canon v29, AV.canon v33] h).bind fun p34 => retOr p34.1 (fun _ => none) fun r35 =>
    (unOp .not r35).bind fun v36 =>
    condV v36 (
      some (AEnd.ret (.bool false), p34.2)) (
      (bin .add x5 (.int .i64 1)).bind fun v37 =>
      warrantorref29_Same.l0 J m0 x2 x3 v37 p34.2)) (
    some (AEnd.ret (.bool true), h)) := (hJ _ _ _ (by kernel_rfl)).trans (by kernel_rfl)
/-! ### warrantor/warrantorref29.Image: function 39 -/
noncomputable def warrantorref29_Image.A : FAnn := { nv := 6, mv := [(1, 0), (3, 0), (3, 1), (4, 0)], ld := [], lst := [], obj := [], q := [], raw := [] }
noncomputable def warrantorref29_Image.an : Ann := .nil
noncomputable abbrev warrantorref29_Image.c : Code := Tryz.f39.body.getD .skip
noncomputable def warrantorref29_Image.J (call : Cl) (n : Nat) : Jn (AEnd × H) := realJ Tryz.prog warrantorref29_Image.A call Tryz.f39 warrantorref29_Image.an warrantorref29_Image.c n
abbrev warrantorref29_Image.F (call : Cl) (n : Nat) (J : Jn (AEnd × H)) : Prop := JFix Tryz.prog warrantorref29_Image.A call Tryz.f39 warrantorref29_Image.an warrantorref29_Image.c n J
def warrantorref29_Image.f (J : Jn (AEnd × H)) (x0 x1 : AV) (h : H) : Option (AEnd × H) := J [] [] ⟨[(0, x0), (1, x1)], [], [], h⟩
theorem warrantorref29_Image.f_eq {call : Cl} {n : Nat} {J : Jn (AEnd × H)} (hJ : warrantorref29_Image.F call n J) (x0 x1 : AV) (h : H) : warrantorref29_Image.f J x0 x1 h =
  (lnSl x1).bind fun v1 =>
  (call n_warrantorref29_head [AV.canon x0, AV.canon v1] h).bind fun p2 => retOr p2.1 (fun r3p => some (AEnd.pan r3p, p2.2)) fun r3 =>
  (lnSl x1).bind fun v4 =>
  (bin .gtr v4 (.int .i64 0)).bind fun v5 =>
  condV v5 (
    (call n_warrantorref29_puts [AV.canon x1] p2.2).bind fun p6 => retOr p6.1 (fun r7p => some (AEnd.pan r7p, p6.2)) fun r7 =>
    (call n_warrantorref27_Put [AV.canon r7] p6.2).bind fun p8 => retOr p8.1 (fun r9p => some (AEnd.pan r9p, p8.2)) fun r9 =>
    (apSlice 1 1 true true p8.2 r3 r9).bind fun v10 =>
    some (AEnd.ret v10, p8.2)) (
    some (AEnd.ret r3, p2.2)) := (hJ _ _ _ (by kernel_rfl)).trans (by kernel_rfl)
/-! ### warrantor/warrantorref29.Put: function 41 -/
noncomputable def warrantorref29_Put.A : FAnn := { nv := 5, mv := [(4, 0), (5, 0), (6, 0)], ld := [], lst := [], obj := [], q := [], raw := [] }
noncomputable def warrantorref29_Put.an : Ann := .mk none .nil (.mk none .nil (.mk none (.mk none .nil (.mk none (.mk none (.mk (some [(1, 0), (3, 255), (4, 0)]) .nil .nil) .nil) .nil)) .nil))
noncomputable abbrev warrantorref29_Put.c : Code := Tryz.f41.body.getD .skip
noncomputable def warrantorref29_Put.J (call : Cl) (n : Nat) : Jn (AEnd × H) := realJ Tryz.prog warrantorref29_Put.A call Tryz.f41 warrantorref29_Put.an warrantorref29_Put.c n
abbrev warrantorref29_Put.F (call : Cl) (n : Nat) (J : Jn (AEnd × H)) : Prop := JFix Tryz.prog warrantorref29_Put.A call Tryz.f41 warrantorref29_Put.an warrantorref29_Put.c n J
def warrantorref29_Put.f (J : Jn (AEnd × H)) (x0 : AV) (h : H) : Option (AEnd × H) := J [] [] ⟨[(0, x0)], [], [], h⟩
def warrantorref29_Put.l0 (J : Jn (AEnd × H)) (m0 : Nat) (x1 x3 x4 : AV) (h : H) : Option (AEnd × H) := J [1, 1, 0, 1, 0] [m0] ⟨[(1, x1), (3, x3), (4, x4)], [(1, 0), (3, 255), (4, 0)], [], h⟩
theorem warrantorref29_Put.f_eq {call : Cl} {n : Nat} {J : Jn (AEnd × H)} (hJ : warrantorref29_Put.F call n J) (x0 : AV) (h : H) : warrantorref29_Put.f J x0 h =
  (bx h (AV.copy x0)).bind fun p1 =>
  (fAddr 0 p1.1).bind fun v2 =>
  (ldCell p1.2 v2).bind fun v3 =>
  (fAddr 1 p1.1).bind fun v4 =>
  (ldCell p1.2 v4).bind fun v5 =>
  (call n_warrantorref29_Image [AV.canon v3, AV.canon v5] p1.2).bind fun p6 => retOr p6.1 (fun r7p => some (AEnd.pan r7p, p6.2)) fun r7 =>
  warrantorref29_Put.l0 J n p1.1 r7 (.int .i64 0) p6.2 := (hJ _ _ _ (by kernel_rfl)).trans (by kernel_rfl)
theorem warrantorref29_Put.l0_eq {call : Cl} {n : Nat} {J : Jn (AEnd × H)} (hJ : warrantorref29_Put.F call n J) (m0 : Nat) (x1 x3 x4 : AV) (h : H) : warrantorref29_Put.l0 J (m0 + 1) x1 x3 x4 h =
  (fAddr 2 x1).bind fun v8 =>
  (ldCell h v8).bind fun v9 =>
  (lnSl v9).bind fun v10 =>
  (bin .lss x4 v10).bind fun v11 =>
  condV v11 (
    (fAddr 2 x1).bind fun v12 =>
    (ldCell h v12).bind fun v13 =>
    (ixSlice 1 v13 x4).bind fun v14 =>
    (ldCell h v14).bind fun v15 =>
    (call n_warrantorref27_Put [AV.canon v15] h).bind fun p16 => retOr p16.1 (fun r17p => some (AEnd.pan r17p, p16.2)) fun r17 =>
    (apSlice 1 1 true true p16.2 x3 r17).bind fun v18 =>
    (bin .add x4 (.int .i64 1)).bind fun v19 =>
    warrantorref29_Put.l0 J m0 x1 v18 v19 p16.2) (
    some (AEnd.ret x3, h)) := (hJ _ _ _ (by kernel_rfl)).trans (by kernel_rfl)
/-! ### warrantor/warrantorref29.Read: function 42 -/
noncomputable def warrantorref29_Read.A : FAnn := { nv := 11, mv := [(2, 0), (6, 0), (7, 1), (8, 2), (9, 0), (9, 1), (10, 1)], ld := [(8, 1)], lst := [], obj := [], q := [], raw := [] }
noncomputable def warrantorref29_Read.an : Ann := .mk none .nil (.mk none .nil (.mk none .nil (.mk none (.mk none (.mk none (.mk (some [(0, 0), (2, 0), (5, 0), (6, 0)]) .nil .nil) .nil) .nil) .nil)))
noncomputable abbrev warrantorref29_Read.c : Code := Tryz.f42.body.getD .skip
noncomputable def warrantorref29_Read.J (call : Cl) (n : Nat) : Jn (AEnd × H) := realJ Tryz.prog warrantorref29_Read.A call Tryz.f42 warrantorref29_Read.an warrantorref29_Read.c n
abbrev warrantorref29_Read.F (call : Cl) (n : Nat) (J : Jn (AEnd × H)) : Prop := JFix Tryz.prog warrantorref29_Read.A call Tryz.f42 warrantorref29_Read.an warrantorref29_Read.c n J
def warrantorref29_Read.f (J : Jn (AEnd × H)) (x0 : AV) (h : H) : Option (AEnd × H) := J [] [] ⟨[(0, x0)], [], [], h⟩
def warrantorref29_Read.l0 (J : Jn (AEnd × H)) (m0 : Nat) (x0 x2 x5 x6 : AV) (h : H) : Option (AEnd × H) := J [1, 1, 1, 0, 0] [m0] ⟨[(0, x0), (2, x2), (5, x5), (6, x6)], [(0, 0), (2, 0), (5, 0), (6, 0)], [], h⟩
theorem warrantorref29_Read.f_eq {call : Cl} {n : Nat} {J : Jn (AEnd × H)} (hJ : warrantorref29_Read.F call n J) (x0 : AV) (h : H) : warrantorref29_Read.f J x0 h =
  let h1 : H := h ++ [.arr [.int .i64 0, .list [] .cap, .list [] .cap] false]
  (call n_warrantorref29_image [AV.canon x0] h1).bind fun p2 => retOr p2.1 (fun r3p => some (AEnd.pan r3p, p2.2)) fun r3 =>
  (exTuple 0 r3).bind fun v4 =>
  (exTuple 1 r3).bind fun v5 =>
  (exTuple 2 r3).bind fun v6 =>
  let h7 : H := p2.2 ++ [.arr [.int .i64 0, .list [] .cap, .list [] .cap] false]
  (stN 3 h7 (.ptr p2.2.length 0) v4).bind fun p8 =>
  (unOp .not v6).bind fun v9 =>
  condV v9 (
    (mkAgg [.int .i64 0, .list [] .cap, .list [] .cap] []).bind fun v10 =>
    (stN 3 p8.2 (.ptr h.length 0) v10).bind fun p11 =>
    (resN [(ldAgg 3 p11.2 (.ptr h.length 0)).map AV.copy, some (.int .i64 0), some (.int .i64 290)]).map fun v => (AEnd.ret v, p11.2)) (
    warrantorref29_Read.l0 J n x0 (.ptr h.length 0) (.ptr p2.2.length 0) v5 p8.2) := (hJ _ _ _ (by kernel_rfl)).trans (by kernel_rfl)
theorem warrantorref29_Read.l0_eq {call : Cl} {n : Nat} {J : Jn (AEnd × H)} (hJ : warrantorref29_Read.F call n J) (m0 : Nat) (x0 x2 x5 x6 : AV) (h : H) : warrantorref29_Read.l0 J (m0 + 1) x0 x2 x5 x6 h =
  (lnSl x0).bind fun v12 =>
  (bin .lss x6 v12).bind fun v13 =>
  condV v13 (
    (slSlice 1 x0 (some x6) none none).bind fun v14 =>
    (call n_warrantorref27_Get [AV.canon v14] h).bind fun p15 => retOr p15.1 (fun r16p => some (AEnd.pan r16p, p15.2)) fun r16 =>
    (exTuple 0 r16).bind fun v17 =>
    (exTuple 1 r16).bind fun v18 =>
    (exTuple 2 r16).bind fun v19 =>
    (bin .neq v19 (.int .i64 0)).bind fun v20 =>
    condV v20 (
      (ldAgg 3 p15.2 x5).bind fun v21 =>
      (stN 3 p15.2 x2 (AV.copy v21)).bind fun p22 =>
      (resN [(ldAgg 3 p22.2 x2).map AV.copy, some (AV.copy x6), some (.int .i64 0)]).map fun v => (AEnd.ret v, p22.2)) (
      (fAddr 2 x5).bind fun v23 =>
      (ldTake p15.2 v23).bind fun p24 =>
      (mkRows 1 [.list [] .cap] 1 [(0, v17)]).bind fun v25 =>
      (apSlice 1 24 false true p24.2 p24.1 v25).bind fun v26 =>
      (fAddr 2 x5).bind fun v27 =>
      (stN 1 p24.2 v27 v26).bind fun p28 =>
      (bin .add x6 v18).bind fun v29 =>
      warrantorref29_Read.l0 J m0 x0 x2 x5 v29 p28.2)) (
    (ldAgg 3 h x5).bind fun v30 =>
    (stN 3 h x2 (AV.copy v30)).bind fun p31 =>
    (resN [(ldAgg 3 p31.2 x2).map AV.copy, some (AV.copy x6), some (.int .i64 0)]).map fun v => (AEnd.ret v, p31.2)) := (hJ _ _ _ (by kernel_rfl)).trans (by kernel_rfl)
/-! ### warrantor/warrantorref29.LargeEntries: function 43 -/
noncomputable def warrantorref29_LargeEntries.A : FAnn := { nv := 6, mv := [(1, 2), (5, 0)], ld := [], lst := [], obj := [], q := [], raw := [] }
noncomputable def warrantorref29_LargeEntries.an : Ann := .mk none .nil (.mk none .nil (.mk none (.mk none .nil (.mk none (.mk none (.mk (some [(0, 0), (5, 0)]) .nil .nil) .nil) .nil)) .nil))
noncomputable abbrev warrantorref29_LargeEntries.c : Code := Tryz.f43.body.getD .skip
noncomputable def warrantorref29_LargeEntries.J (call : Cl) (n : Nat) : Jn (AEnd × H) := realJ Tryz.prog warrantorref29_LargeEntries.A call Tryz.f43 warrantorref29_LargeEntries.an warrantorref29_LargeEntries.c n
abbrev warrantorref29_LargeEntries.F (call : Cl) (n : Nat) (J : Jn (AEnd × H)) : Prop := JFix Tryz.prog warrantorref29_LargeEntries.A call Tryz.f43 warrantorref29_LargeEntries.an warrantorref29_LargeEntries.c n J
def warrantorref29_LargeEntries.f (J : Jn (AEnd × H)) (x0 x1 : AV) (h : H) : Option (AEnd × H) := J [] [] ⟨[(0, x0), (1, x1)], [], [], h⟩
def warrantorref29_LargeEntries.l0 (J : Jn (AEnd × H)) (m0 : Nat) (x0 x5 : AV) (h : H) : Option (AEnd × H) := J [1, 1, 0, 1, 0] [m0] ⟨[(0, x0), (5, x5)], [(0, 0), (5, 0)], [], h⟩
theorem warrantorref29_LargeEntries.f_eq {call : Cl} {n : Nat} {J : Jn (AEnd × H)} (hJ : warrantorref29_LargeEntries.F call n J) (x0 x1 : AV) (h : H) : warrantorref29_LargeEntries.f J x0 x1 h =
  (lnSl x0).bind fun v1 =>
  (bin .gtr v1 x1).bind fun v2 =>
  condV v2 (
    some (AEnd.ret (.bool true), h)) (
    warrantorref29_LargeEntries.l0 J n x0 (.int .i64 0) h) := (hJ _ _ _ (by kernel_rfl)).trans (by kernel_rfl)
theorem warrantorref29_LargeEntries.l0_eq {call : Cl} {n : Nat} {J : Jn (AEnd × H)} (hJ : warrantorref29_LargeEntries.F call n J) (m0 : Nat) (x0 x5 : AV) (h : H) : warrantorref29_LargeEntries.l0 J (m0 + 1) x0 x5 h =
  (lnSl x0).bind fun v3 =>
  (bin .lss x5 v3).bind fun v4 =>
  condV v4 (
    (ixSlice 10 x0 x5).bind fun v5 =>
    (ldAgg 10 h v5).bind fun v6 =>
    (call n_warrantorref27_LargeEntry [AV.canon v6] h).bind fun p7 => retOr p7.1 (fun r8p => some (AEnd.pan r8p, p7.2)) fun r8 =>
    condV r8 (
      some (AEnd.ret (.bool true), p7.2)) (
      (bin .add x5 (.int .i64 1)).bind fun v9 =>
      warrantorref29_LargeEntries.l0 J m0 x0 v9 p7.2)) (
    some (AEnd.ret (.bool false), h)) := (hJ _ _ _ (by kernel_rfl)).trans (by kernel_rfl)
/-! ### warrantor/warrantorref29.Gen: function 44 -/
noncomputable def warrantorref29_Gen.A : FAnn := { nv := 2, mv := [(1, 3)], ld := [], lst := [], obj := [], q := [], raw := [] }
noncomputable def warrantorref29_Gen.an : Ann := .nil
noncomputable abbrev warrantorref29_Gen.c : Code := Tryz.f44.body.getD .skip
noncomputable def warrantorref29_Gen.J (call : Cl) (n : Nat) : Jn (AEnd × H) := realJ Tryz.prog warrantorref29_Gen.A call Tryz.f44 warrantorref29_Gen.an warrantorref29_Gen.c n
abbrev warrantorref29_Gen.F (call : Cl) (n : Nat) (J : Jn (AEnd × H)) : Prop := JFix Tryz.prog warrantorref29_Gen.A call Tryz.f44 warrantorref29_Gen.an warrantorref29_Gen.c n J
def warrantorref29_Gen.f (J : Jn (AEnd × H)) (x0 : AV) (h : H) : Option (AEnd × H) := J [] [] ⟨[(0, x0)], [], [], h⟩
theorem warrantorref29_Gen.f_eq {call : Cl} {n : Nat} {J : Jn (AEnd × H)} (hJ : warrantorref29_Gen.F call n J) (x0 : AV) (h : H) : warrantorref29_Gen.f J x0 h =
  (bin .geq x0 (.int .i64 1)).bind fun v1 =>
  condV v1 (
    (bin .leq x0 (.int .i64 1099511627776)).bind fun v2 =>
    some (AEnd.ret (AV.copy v2), h)) (
    some (AEnd.ret (AV.copy (.bool false)), h)) := (hJ _ _ _ (by kernel_rfl)).trans (by kernel_rfl)
/-! ### warrantor/warrantorref17.Large: function 45 -/
noncomputable def warrantorref17_Large.A : FAnn := { nv := 4, mv := [(5, 0)], ld := [], lst := [], obj := [], q := [], raw := [] }
noncomputable def warrantorref17_Large.an : Ann := .mk none .nil (.mk none .nil (.mk none (.mk none .nil (.mk none (.mk none (.mk (some [(0, 0), (3, 0)]) .nil (.mk none (.mk none (.mk none .nil (.mk (some [(0, 0), (3, 0), (37, 0)]) .nil .nil)) .nil) .nil)) .nil) .nil)) .nil))
noncomputable abbrev warrantorref17_Large.c : Code := Tryz.f45.body.getD .skip
noncomputable def warrantorref17_Large.J (call : Cl) (n : Nat) : Jn (AEnd × H) := realJ Tryz.prog warrantorref17_Large.A call Tryz.f45 warrantorref17_Large.an warrantorref17_Large.c n
abbrev warrantorref17_Large.F (call : Cl) (n : Nat) (J : Jn (AEnd × H)) : Prop := JFix Tryz.prog warrantorref17_Large.A call Tryz.f45 warrantorref17_Large.an warrantorref17_Large.c n J
def warrantorref17_Large.f (J : Jn (AEnd × H)) (x0 : AV) (h : H) : Option (AEnd × H) := J [] [] ⟨[(0, x0)], [], [], h⟩
def warrantorref17_Large.l0 (J : Jn (AEnd × H)) (m0 : Nat) (x0 x3 : AV) (h : H) : Option (AEnd × H) := J [1, 1, 0, 1, 0] [m0] ⟨[(0, x0), (3, x3)], [(0, 0), (3, 0)], [], h⟩
def warrantorref17_Large.j0 (J : Jn (AEnd × H)) (m0 : Nat) (x0 x3 x37 : AV) (h : H) : Option (AEnd × H) := J [1, 1, 0, 1, 0, 0, 1, 0, 0, 1] [m0] ⟨[(0, x0), (3, x3), (37, x37)], [(0, 0), (3, 0), (37, 0)], [], h⟩
theorem warrantorref17_Large.f_eq {call : Cl} {n : Nat} {J : Jn (AEnd × H)} (hJ : warrantorref17_Large.F call n J) (x0 : AV) (h : H) : warrantorref17_Large.f J x0 h =
  (lnSl x0).bind fun v1 =>
  (bin .gtr v1 (.int .i64 100)).bind fun v2 =>
  condV v2 (
    some (AEnd.ret (.bool true), h)) (
    warrantorref17_Large.l0 J n x0 (.int .i64 0) h) := (hJ _ _ _ (by kernel_rfl)).trans (by kernel_rfl)
theorem warrantorref17_Large.l0_eq {call : Cl} {n : Nat} {J : Jn (AEnd × H)} (hJ : warrantorref17_Large.F call n J) (m0 : Nat) (x0 x3 : AV) (h : H) : warrantorref17_Large.l0 J (m0 + 1) x0 x3 h =
  (lnSl x0).bind fun v3 =>
  (bin .lss x3 v3).bind fun v4 =>
  condV v4 (
    (ixSlice 6 x0 x3).bind fun v5 =>
    (fAddr 2 v5).bind fun v6 =>
    (ldCell h v6).bind fun v7 =>
    (lnStr v7).bind fun v8 =>
    (bin .gtr v8 (.int .i64 300)).bind fun v9 =>
    condV v9 (
      warrantorref17_Large.j0 J m0 x0 x3 (.bool true) h) (
      (ixSlice 6 x0 x3).bind fun v10 =>
      (fAddr 3 v10).bind fun v11 =>
      (ldCell h v11).bind fun v12 =>
      (lnStr v12).bind fun v13 =>
      (bin .gtr v13 (.int .i64 300)).bind fun v14 =>
      condV v14 (
        warrantorref17_Large.j0 J m0 x0 x3 (.bool true) h) (
        (ixSlice 6 x0 x3).bind fun v15 =>
        (fAddr 5 v15).bind fun v16 =>
        (ldCell h v16).bind fun v17 =>
        (lnStr v17).bind fun v18 =>
        (bin .gtr v18 (.int .i64 300)).bind fun v19 =>
        warrantorref17_Large.j0 J m0 x0 x3 v19 h))) (
    some (AEnd.ret (.bool false), h)) := (hJ _ _ _ (by kernel_rfl)).trans (by kernel_rfl)
theorem warrantorref17_Large.j0_eq {call : Cl} {n : Nat} {J : Jn (AEnd × H)} (hJ : warrantorref17_Large.F call n J) (m0 : Nat) (x0 x3 x37 : AV) (h : H) : warrantorref17_Large.j0 J m0 x0 x3 x37 h =
  condV x37 (
    some (AEnd.ret (.bool true), h)) (
    (bin .add x3 (.int .i64 1)).bind fun v20 =>
    warrantorref17_Large.l0 J m0 x0 v20 h) := (hJ _ _ _ (by kernel_rfl)).trans (by kernel_rfl)
/-! ### warrantor/rec.kinds: function 46 -/
noncomputable def rec_kinds.A : FAnn := { nv := 2, mv := [], ld := [], lst := [], obj := [], q := [], raw := [] }
noncomputable def rec_kinds.an : Ann := .nil
noncomputable abbrev rec_kinds.c : Code := Tryz.f46.body.getD .skip
noncomputable def rec_kinds.J (call : Cl) (n : Nat) : Jn (AEnd × H) := realJ Tryz.prog rec_kinds.A call Tryz.f46 rec_kinds.an rec_kinds.c n
abbrev rec_kinds.F (call : Cl) (n : Nat) (J : Jn (AEnd × H)) : Prop := JFix Tryz.prog rec_kinds.A call Tryz.f46 rec_kinds.an rec_kinds.c n J
def rec_kinds.f (J : Jn (AEnd × H)) (h : H) : Option (AEnd × H) := J [] [] ⟨[], [], [], h⟩
theorem rec_kinds.f_eq {call : Cl} {n : Nat} {J : Jn (AEnd × H)} (hJ : rec_kinds.F call n J) (h : H) : rec_kinds.f J  h =
  let h1 : H := h ++ [.arr [.nilFunc] false]
  (stN 1 h1 (.ptr h.length 0) (AV.copy (.func (.func n_rec_kinds_c1) [] []))).bind fun p2 =>
  let h3 : H := p2.2 ++ [.map []]
  (mkRows 1 [.nilFunc] 1 [(0, .func (.func n_rec_pen_alarm) [] [])]).bind fun v4 =>
  (mkRows 1 [.nilFunc] 1 [(0, .func (.func n_rec_taker_alarm) [] [])]).bind fun v5 =>
  (mkAgg [.list [] .cap, .list [] .cap, .nilFunc] [(0, 1, AV.copy v4), (1, 1, AV.copy v5), (2, 1, AV.copy (.func (.func n_rec_kinds_c2) [] [AV.copy (.ptr h.length 0)]))]).bind fun v6 =>
  (upMap .int h3 (.map p2.2.length) (.int .i64 1) v6).bind fun p7 =>
  (mkRows 1 [.nilFunc] 1 [(0, .func (.func n_rec_pen_note) [] [])]).bind fun v8 =>
  (mkRows 1 [.nilFunc] 1 [(0, .func (.func n_rec_taker_note) [] [])]).bind fun v9 =>
  (mkAgg [.list [] .cap, .list [] .cap, .nilFunc] [(0, 1, AV.copy v8), (1, 1, AV.copy v9), (2, 1, AV.copy (.func (.func n_rec_kinds_c3) [] [AV.copy (.ptr h.length 0)]))]).bind fun v10 =>
  (upMap .int p7.2 (.map p2.2.length) (.int .i64 2) v10).bind fun p11 =>
  (ldCell p11.2 (.ptr h.length 0)).bind fun v12 =>
  (mkAgg [.list [] .cap, .list [] .cap, .nilFunc] [(2, 1, AV.copy v12)]).bind fun v13 =>
  (upMap .int p11.2 (.map p2.2.length) (.int .i64 3) v13).bind fun p14 =>
  (ldCell p14.2 (.ptr h.length 0)).bind fun v15 =>
  (mkAgg [.list [] .cap, .list [] .cap, .nilFunc] [(2, 1, AV.copy v15)]).bind fun v16 =>
  (upMap .int p14.2 (.map p2.2.length) (.int .i64 4) v16).bind fun p17 =>
  (mkRows 1 [.nilFunc] 3 [(0, .func (.func n_rec_pen_alarm) [] []), (1, .func (.func n_rec_pen_stand) [] []), (2, .func (.func n_rec_pen_note) [] [])]).bind fun v18 =>
  (mkRows 1 [.nilFunc] 3 [(0, .func (.func n_rec_taker_alarm) [] []), (1, .func (.func n_rec_taker_stand) [] []), (2, .func (.func n_rec_taker_note) [] [])]).bind fun v19 =>
  (mkAgg [.list [] .cap, .list [] .cap, .nilFunc] [(0, 1, AV.copy v18), (1, 1, AV.copy v19), (2, 1, AV.copy (.func (.func n_rec_Right) [] []))]).bind fun v20 =>
  (upMap .int p17.2 (.map p2.2.length) (.int .i64 5) v20).bind fun p21 =>
  some (AEnd.ret (AV.copy (.map p2.2.length)), p21.2) := (hJ _ _ _ (by kernel_rfl)).trans (by kernel_rfl)
/-! ### warrantor/alarm.Check: function 47 -/
noncomputable def alarm_Check.A : FAnn := { nv := 6, mv := [(4, 0), (4, 3)], ld := [], lst := [], obj := [], q := [], raw := [] }
noncomputable def alarm_Check.an : Ann := .mk none .nil (.mk none .nil (.mk (some [(1, 0), (3, 0)]) .nil (.mk (some [(1, 0), (3, 0), (4, 0)]) .nil (.mk none (.mk none .nil (.mk (some [(49, 0)]) .nil .nil)) .nil))))
noncomputable abbrev alarm_Check.c : Code := Tryz.f47.body.getD .skip
noncomputable def alarm_Check.J (call : Cl) (n : Nat) : Jn (AEnd × H) := realJ Tryz.prog alarm_Check.A call Tryz.f47 alarm_Check.an alarm_Check.c n
abbrev alarm_Check.F (call : Cl) (n : Nat) (J : Jn (AEnd × H)) : Prop := JFix Tryz.prog alarm_Check.A call Tryz.f47 alarm_Check.an alarm_Check.c n J
def alarm_Check.f (J : Jn (AEnd × H)) (x0 : AV) (h : H) : Option (AEnd × H) := J [] [] ⟨[(0, x0)], [], [], h⟩
def alarm_Check.j0 (J : Jn (AEnd × H)) (x1 x3 : AV) (h : H) : Option (AEnd × H) := J [1, 1] [] ⟨[(1, x1), (3, x3)], [(1, 0), (3, 0)], [], h⟩
def alarm_Check.j1 (J : Jn (AEnd × H)) (x1 x3 x4 : AV) (h : H) : Option (AEnd × H) := J [1, 1, 1] [] ⟨[(1, x1), (3, x3), (4, x4)], [(1, 0), (3, 0), (4, 0)], [], h⟩
def alarm_Check.j2 (J : Jn (AEnd × H)) (x49 : AV) (h : H) : Option (AEnd × H) := J [1, 1, 1, 1, 0, 1] [] ⟨[(49, x49)], [(49, 0)], [], h⟩
theorem alarm_Check.f_eq {call : Cl} {n : Nat} {J : Jn (AEnd × H)} (hJ : alarm_Check.F call n J) (x0 : AV) (h : H) : alarm_Check.f J x0 h =
  (bx h (AV.copy x0)).bind fun p1 =>
  (fAddr 0 p1.1).bind fun v2 =>
  (ldCell p1.2 v2).bind fun v3 =>
  (bin .geq v3 (.int .i64 1)).bind fun v4 =>
  condV v4 (
    (fAddr 0 p1.1).bind fun v5 =>
    (ldCell p1.2 v5).bind fun v6 =>
    (bin .leq v6 (.int .i64 3)).bind fun v7 =>
    alarm_Check.j0 J  p1.1 v7 p1.2) (
    alarm_Check.j0 J  p1.1 (.bool false) p1.2) := (hJ _ _ _ (by kernel_rfl)).trans (by kernel_rfl)
theorem alarm_Check.j0_eq {call : Cl} {n : Nat} {J : Jn (AEnd × H)} (hJ : alarm_Check.F call n J) (x1 x3 : AV) (h : H) : alarm_Check.j0 J  x1 x3 h =
  (fAddr 1 x1).bind fun v8 =>
  (ldCell h v8).bind fun v9 =>
  (bin .geq v9 (.int .i64 1)).bind fun v10 =>
  condV v10 (
    (fAddr 1 x1).bind fun v11 =>
    (ldCell h v11).bind fun v12 =>
    (bin .leq v12 (.int .i64 2)).bind fun v13 =>
    alarm_Check.j1 J  x1 x3 v13 h) (
    alarm_Check.j1 J  x1 x3 (.bool false) h) := (hJ _ _ _ (by kernel_rfl)).trans (by kernel_rfl)
theorem alarm_Check.j1_eq {call : Cl} {n : Nat} {J : Jn (AEnd × H)} (hJ : alarm_Check.F call n J) (x1 x3 x4 : AV) (h : H) : alarm_Check.j1 J  x1 x3 x4 h =
  (fAddr 2 x1).bind fun v14 =>
  (ldCell h v14).bind fun v15 =>
  (fAddr 2 x1).bind fun v16 =>
  (ldCell h v16).bind fun v17 =>
  (fAddr 3 x1).bind fun v18 =>
  (ldCell h v18).bind fun v19 =>
  (fAddr 4 x1).bind fun v20 =>
  (ldCell h v20).bind fun v21 =>
  (mkAgg [.str [], .str [], .int .i64 0] [(0, 1, AV.copy v17), (1, 1, AV.copy v19), (2, 1, AV.copy v21)]).bind fun v22 =>
  (mkRows 3 [.str [], .str [], .int .i64 0] 1 [(0, v22)]).bind fun v23 =>
  (mkAgg [.str [], .list [] .cap, .list [] .cap, .list [] .cap] [(0, 1, AV.copy v15), (2, 1, AV.copy v23)]).bind fun v24 =>
  let h25 : H := h ++ [.arr [.str [], .list [] .cap, .list [] .cap, .list [] .cap] false]
  (stN 4 h25 (.ptr h.length 0) v24).bind fun p26 =>
  (unOp .not x3).bind fun v27 =>
  condV v27 (
    alarm_Check.j2 J  (.bool true) p26.2) (
    (unOp .not x4).bind fun v28 =>
    condV v28 (
      alarm_Check.j2 J  (.bool true) p26.2) (
      (fAddr 5 x1).bind fun v29 =>
      (ldCell p26.2 v29).bind fun v30 =>
      (call n_alarm_expr [AV.canon v30] p26.2).bind fun p31 => retOr p31.1 (fun r32p => some (AEnd.pan r32p, p31.2)) fun r32 =>
      (unOp .not r32).bind fun v33 =>
      condV v33 (
        alarm_Check.j2 J  (.bool true) p31.2) (
        (ldAgg 4 p31.2 (.ptr h.length 0)).bind fun v34 =>
        (call n_prog_Check [AV.canon v34] p31.2).bind fun p35 => retOr p35.1 (fun r36p => some (AEnd.pan r36p, p35.2)) fun r36 =>
        (bin .neq r36 (.int .i64 0)).bind fun v37 =>
        alarm_Check.j2 J  v37 p35.2))) := (hJ _ _ _ (by kernel_rfl)).trans (by kernel_rfl)
theorem alarm_Check.j2_eq {call : Cl} {n : Nat} {J : Jn (AEnd × H)} (hJ : alarm_Check.F call n J) (x49 : AV) (h : H) : alarm_Check.j2 J  x49 h =
  condV x49 (
    some (AEnd.ret (.int .i64 170), h)) (
    some (AEnd.ret (.int .i64 0), h)) := (hJ _ _ _ (by kernel_rfl)).trans (by kernel_rfl)
/-! ### warrantor/rec.note: function 48 -/
noncomputable def rec_note.A : FAnn := { nv := 2, mv := [(1, 0)], ld := [], lst := [], obj := [], q := [], raw := [] }
noncomputable def rec_note.an : Ann := .nil
noncomputable abbrev rec_note.c : Code := Tryz.f48.body.getD .skip
noncomputable def rec_note.J (call : Cl) (n : Nat) : Jn (AEnd × H) := realJ Tryz.prog rec_note.A call Tryz.f48 rec_note.an rec_note.c n
abbrev rec_note.F (call : Cl) (n : Nat) (J : Jn (AEnd × H)) : Prop := JFix Tryz.prog rec_note.A call Tryz.f48 rec_note.an rec_note.c n J
def rec_note.f (J : Jn (AEnd × H)) (x0 : AV) (h : H) : Option (AEnd × H) := J [] [] ⟨[(0, x0)], [], [], h⟩
theorem rec_note.f_eq {call : Cl} {n : Nat} {J : Jn (AEnd × H)} (hJ : rec_note.F call n J) (x0 : AV) (h : H) : rec_note.f J x0 h =
  (mkAgg [.int .u64 0, .str []] [(1, 1, AV.copy x0)]).bind fun v1 =>
  (mkRows 2 [.int .u64 0, .str []] 1 [(0, v1)]).bind fun v2 =>
  (call n_result_Base [AV.canon v2] h).bind fun p3 => retOr p3.1 (fun r4p => some (AEnd.pan r4p, p3.2)) fun r4 =>
  (bin .eql r4 (.int .i64 0)).bind fun v5 =>
  some (AEnd.ret (AV.copy v5), p3.2) := (hJ _ _ _ (by kernel_rfl)).trans (by kernel_rfl)
/-! ### warrantor/warrantorref17.Check: function 49 -/
noncomputable def warrantorref17_Check.A : FAnn := { nv := 2, mv := [], ld := [], lst := [], obj := [], q := [], raw := [] }
noncomputable def warrantorref17_Check.an : Ann := .mk none .nil (.mk none (.mk none .nil (.mk (some [(1, 0), (30, 0)]) .nil .nil)) (.mk (some [(1, 0)]) .nil .nil))
noncomputable abbrev warrantorref17_Check.c : Code := Tryz.f49.body.getD .skip
noncomputable def warrantorref17_Check.J (call : Cl) (n : Nat) : Jn (AEnd × H) := realJ Tryz.prog warrantorref17_Check.A call Tryz.f49 warrantorref17_Check.an warrantorref17_Check.c n
abbrev warrantorref17_Check.F (call : Cl) (n : Nat) (J : Jn (AEnd × H)) : Prop := JFix Tryz.prog warrantorref17_Check.A call Tryz.f49 warrantorref17_Check.an warrantorref17_Check.c n J
def warrantorref17_Check.f (J : Jn (AEnd × H)) (x0 : AV) (h : H) : Option (AEnd × H) := J [] [] ⟨[(0, x0)], [], [], h⟩
def warrantorref17_Check.j1 (J : Jn (AEnd × H)) (x1 x30 : AV) (h : H) : Option (AEnd × H) := J [1, 0, 1] [] ⟨[(1, x1), (30, x30)], [(1, 0), (30, 0)], [], h⟩
def warrantorref17_Check.j0 (J : Jn (AEnd × H)) (x1 : AV) (h : H) : Option (AEnd × H) := J [1, 1] [] ⟨[(1, x1)], [(1, 0)], [], h⟩
theorem warrantorref17_Check.f_eq {call : Cl} {n : Nat} {J : Jn (AEnd × H)} (hJ : warrantorref17_Check.F call n J) (x0 : AV) (h : H) : warrantorref17_Check.f J x0 h =
  (bx h (AV.copy x0)).bind fun p1 =>
  (fAddr 0 p1.1).bind fun v2 =>
  (ldCell p1.2 v2).bind fun v3 =>
  (bin .lss v3 (.int .i64 1)).bind fun v4 =>
  condV v4 (
    warrantorref17_Check.j1 J  p1.1 (.bool true) p1.2) (
    (fAddr 0 p1.1).bind fun v5 =>
    (ldCell p1.2 v5).bind fun v6 =>
    (bin .gtr v6 (.int .i64 3)).bind fun v7 =>
    condV v7 (
      warrantorref17_Check.j1 J  p1.1 (.bool true) p1.2) (
      (fAddr 1 p1.1).bind fun v8 =>
      (ldCell p1.2 v8).bind fun v9 =>
      (bin .lss v9 (.int .i64 1)).bind fun v10 =>
      condV v10 (
        warrantorref17_Check.j1 J  p1.1 (.bool true) p1.2) (
        (fAddr 1 p1.1).bind fun v11 =>
        (ldCell p1.2 v11).bind fun v12 =>
        (bin .gtr v12 (.int .i64 2)).bind fun v13 =>
        condV v13 (
          warrantorref17_Check.j1 J  p1.1 (.bool true) p1.2) (
          (fAddr 4 p1.1).bind fun v14 =>
          (ldCell p1.2 v14).bind fun v15 =>
          (bin .lss v15 (.int .i64 1)).bind fun v16 =>
          condV v16 (
            warrantorref17_Check.j1 J  p1.1 (.bool true) p1.2) (
            (fAddr 4 p1.1).bind fun v17 =>
            (ldCell p1.2 v17).bind fun v18 =>
            (bin .gtr v18 (.int .i64 1048576)).bind fun v19 =>
            warrantorref17_Check.j1 J  p1.1 v19 p1.2))))) := (hJ _ _ _ (by kernel_rfl)).trans (by kernel_rfl)
theorem warrantorref17_Check.j1_eq {call : Cl} {n : Nat} {J : Jn (AEnd × H)} (hJ : warrantorref17_Check.F call n J) (x1 x30 : AV) (h : H) : warrantorref17_Check.j1 J  x1 x30 h =
  condV x30 (
    some (AEnd.ret (.bool false), h)) (
    warrantorref17_Check.j0 J  x1 h) := (hJ _ _ _ (by kernel_rfl)).trans (by kernel_rfl)
theorem warrantorref17_Check.j0_eq {call : Cl} {n : Nat} {J : Jn (AEnd × H)} (hJ : warrantorref17_Check.F call n J) (x1 : AV) (h : H) : warrantorref17_Check.j0 J  x1 h =
  (fAddr 2 x1).bind fun v20 =>
  (ldCell h v20).bind fun v21 =>
  (call n_warrantorref11_Name [AV.canon v21] h).bind fun p22 => retOr p22.1 (fun r23p => some (AEnd.pan r23p, p22.2)) fun r23 =>
  condV r23 (
    (fAddr 3 x1).bind fun v24 =>
    (ldCell p22.2 v24).bind fun v25 =>
    (call n_warrantorref11_File [AV.canon v25] p22.2).bind fun p26 => retOr p26.1 (fun r27p => some (AEnd.pan r27p, p26.2)) fun r27 =>
    condV r27 (
      (fAddr 5 x1).bind fun v28 =>
      (ldCell p26.2 v28).bind fun v29 =>
      (call n_warrantorref17_Expr [AV.canon v29] p26.2).bind fun p30 => retOr p30.1 (fun r31p => some (AEnd.pan r31p, p30.2)) fun r31 =>
      some (AEnd.ret (AV.copy r31), p30.2)) (
      some (AEnd.ret (AV.copy (.bool false)), p26.2))) (
    some (AEnd.ret (AV.copy (.bool false)), p22.2)) := (hJ _ _ _ (by kernel_rfl)).trans (by kernel_rfl)
/-! ### warrantor/warrantorref21.Note: function 50 -/
noncomputable def warrantorref21_Note.A : FAnn := { nv := 2, mv := [(1, 8)], ld := [], lst := [], obj := [], q := [], raw := [] }
noncomputable def warrantorref21_Note.an : Ann := .nil
noncomputable abbrev warrantorref21_Note.c : Code := Tryz.f50.body.getD .skip
noncomputable def warrantorref21_Note.J (call : Cl) (n : Nat) : Jn (AEnd × H) := realJ Tryz.prog warrantorref21_Note.A call Tryz.f50 warrantorref21_Note.an warrantorref21_Note.c n
abbrev warrantorref21_Note.F (call : Cl) (n : Nat) (J : Jn (AEnd × H)) : Prop := JFix Tryz.prog warrantorref21_Note.A call Tryz.f50 warrantorref21_Note.an warrantorref21_Note.c n J
def warrantorref21_Note.f (J : Jn (AEnd × H)) (x0 : AV) (h : H) : Option (AEnd × H) := J [] [] ⟨[(0, x0)], [], [], h⟩
theorem warrantorref21_Note.f_eq {call : Cl} {n : Nat} {J : Jn (AEnd × H)} (hJ : warrantorref21_Note.F call n J) (x0 : AV) (h : H) : warrantorref21_Note.f J x0 h =
  (lnStr x0).bind fun v1 =>
  (bin .eql v1 (.int .i64 0)).bind fun v2 =>
  condV v2 (
    some (AEnd.ret (AV.copy (.bool true)), h)) (
    (lnStr x0).bind fun v3 =>
    (bin .leq v3 (.int .i64 64)).bind fun v4 =>
    condV v4 (
      (call n_warrantorref17_Expr [AV.canon x0] h).bind fun p5 => retOr p5.1 (fun r6p => some (AEnd.pan r6p, p5.2)) fun r6 =>
      some (AEnd.ret (AV.copy r6), p5.2)) (
      some (AEnd.ret (AV.copy (.bool false)), h))) := (hJ _ _ _ (by kernel_rfl)).trans (by kernel_rfl)
/-! ### warrantor/warrantorref27.Uses: function 51 -/
noncomputable def warrantorref27_Uses.A : FAnn := { nv := 4, mv := [(1, 0)], ld := [], lst := [], obj := [], q := [], raw := [] }
noncomputable def warrantorref27_Uses.an : Ann := .mk none .nil (.mk none (.mk none .nil (.mk none (.mk none .nil (.mk none .nil (.mk none .nil (.mk none .nil (.mk none .nil (.mk (some [(3, 0), (4, 0), (20, 0)]) .nil .nil)))))) .nil)) .nil)
noncomputable abbrev warrantorref27_Uses.c : Code := Tryz.f51.body.getD .skip
noncomputable def warrantorref27_Uses.J (call : Cl) (n : Nat) : Jn (AEnd × H) := realJ Tryz.prog warrantorref27_Uses.A call Tryz.f51 warrantorref27_Uses.an warrantorref27_Uses.c n
abbrev warrantorref27_Uses.F (call : Cl) (n : Nat) (J : Jn (AEnd × H)) : Prop := JFix Tryz.prog warrantorref27_Uses.A call Tryz.f51 warrantorref27_Uses.an warrantorref27_Uses.c n J
def warrantorref27_Uses.f (J : Jn (AEnd × H)) (x0 x1 : AV) (h : H) : Option (AEnd × H) := J [] [] ⟨[(0, x0), (1, x1)], [], [], h⟩
def warrantorref27_Uses.j0 (J : Jn (AEnd × H)) (x3 x4 x20 : AV) (h : H) : Option (AEnd × H) := J [1, 0, 1, 0, 1, 1, 1, 1, 1] [] ⟨[(3, x3), (4, x4), (20, x20)], [(3, 0), (4, 0), (20, 0)], [], h⟩
theorem warrantorref27_Uses.f_eq {call : Cl} {n : Nat} {J : Jn (AEnd × H)} (hJ : warrantorref27_Uses.F call n J) (x0 x1 : AV) (h : H) : warrantorref27_Uses.f J x0 x1 h =
  (bx h (AV.copy x1)).bind fun p1 =>
  let h2 : H := p1.2 ++ [.arr [.int .u64 0, .int .i64 0, .int .i64 0, .str [], .str [], .int .i64 0, .str [], .int .i64 0, .int .i64 0, .str []] false]
  (bin .eql x0 (.int .i64 1)).bind fun v3 =>
  condV v3 (
    (fAddr 0 p1.1).bind fun v4 =>
    (ldCell h2 v4).bind fun v5 =>
    (fAddr 1 p1.1).bind fun v6 =>
    (ldAgg 6 h2 v6).bind fun v7 =>
    (mkAgg [.int .u64 0, .int .i64 0, .int .i64 0, .str [], .str [], .int .i64 0, .str [], .int .i64 0, .int .i64 0, .str []] [(0, 1, AV.copy v5), (1, 6, AV.copy v7)]).bind fun v8 =>
    (stN 10 h2 (.ptr p1.2.length 0) v8).bind fun p9 =>
    (resN [(ldAgg 10 p9.2 (.ptr p1.2.length 0)).map AV.copy]).map fun v => (AEnd.ret v, p9.2)) (
    (bin .eql x0 (.int .i64 2)).bind fun v10 =>
    condV v10 (
      (fAddr 0 p1.1).bind fun v11 =>
      (ldCell h2 v11).bind fun v12 =>
      (fAddr 9 p1.1).bind fun v13 =>
      (ldCell h2 v13).bind fun v14 =>
      (mkAgg [.int .u64 0, .int .i64 0, .int .i64 0, .str [], .str [], .int .i64 0, .str [], .int .i64 0, .int .i64 0, .str []] [(0, 1, AV.copy v12), (9, 1, AV.copy v14)]).bind fun v15 =>
      (stN 10 h2 (.ptr p1.2.length 0) v15).bind fun p16 =>
      (resN [(ldAgg 10 p16.2 (.ptr p1.2.length 0)).map AV.copy]).map fun v => (AEnd.ret v, p16.2)) (
      (bin .eql x0 (.int .i64 3)).bind fun v17 =>
      condV v17 (
        warrantorref27_Uses.j0 J  p1.1 (.ptr p1.2.length 0) v17 h2) (
        (bin .eql x0 (.int .i64 4)).bind fun v18 =>
        warrantorref27_Uses.j0 J  p1.1 (.ptr p1.2.length 0) v18 h2))) := (hJ _ _ _ (by kernel_rfl)).trans (by kernel_rfl)
theorem warrantorref27_Uses.j0_eq {call : Cl} {n : Nat} {J : Jn (AEnd × H)} (hJ : warrantorref27_Uses.F call n J) (x3 x4 x20 : AV) (h : H) : warrantorref27_Uses.j0 J  x3 x4 x20 h =
  condV x20 (
    (fAddr 0 x3).bind fun v19 =>
    (ldCell h v19).bind fun v20 =>
    (mkAgg [.int .u64 0, .int .i64 0, .int .i64 0, .str [], .str [], .int .i64 0, .str [], .int .i64 0, .int .i64 0, .str []] [(0, 1, AV.copy v20)]).bind fun v21 =>
    (stN 10 h x4 v21).bind fun p22 =>
    (resN [(ldAgg 10 p22.2 x4).map AV.copy]).map fun v => (AEnd.ret v, p22.2)) (
    (ldAgg 10 h x3).bind fun v23 =>
    (stN 10 h x4 (AV.copy v23)).bind fun p24 =>
    (resN [(ldAgg 10 p24.2 x4).map AV.copy]).map fun v => (AEnd.ret v, p24.2)) := (hJ _ _ _ (by kernel_rfl)).trans (by kernel_rfl)
/-! ### slices.Equal[[]warrantor/api.Change,warrantor/api.Change]: function 52 -/
noncomputable def slices_Equal_api_Change_api_Change.A : FAnn := { nv := 6, mv := [(6, 5)], ld := [], lst := [], obj := [], q := [], raw := [] }
noncomputable def slices_Equal_api_Change_api_Change.an : Ann := .mk none .nil (.mk none .nil (.mk none (.mk none .nil (.mk none (.mk none (.mk (some [(0, 0), (1, 0), (12, 0), (13, 0)]) .nil .nil) .nil) .nil)) .nil))
noncomputable abbrev slices_Equal_api_Change_api_Change.c : Code := Tryz.f52.body.getD .skip
noncomputable def slices_Equal_api_Change_api_Change.J (call : Cl) (n : Nat) : Jn (AEnd × H) := realJ Tryz.prog slices_Equal_api_Change_api_Change.A call Tryz.f52 slices_Equal_api_Change_api_Change.an slices_Equal_api_Change_api_Change.c n
abbrev slices_Equal_api_Change_api_Change.F (call : Cl) (n : Nat) (J : Jn (AEnd × H)) : Prop := JFix Tryz.prog slices_Equal_api_Change_api_Change.A call Tryz.f52 slices_Equal_api_Change_api_Change.an slices_Equal_api_Change_api_Change.c n J
def slices_Equal_api_Change_api_Change.f (J : Jn (AEnd × H)) (x0 x1 : AV) (h : H) : Option (AEnd × H) := J [] [] ⟨[(0, x0), (1, x1)], [], [], h⟩
def slices_Equal_api_Change_api_Change.l0 (J : Jn (AEnd × H)) (m0 : Nat) (x0 x1 x12 x13 : AV) (h : H) : Option (AEnd × H) := J [1, 1, 0, 1, 0] [m0] ⟨[(0, x0), (1, x1), (12, x12), (13, x13)], [(0, 0), (1, 0), (12, 0), (13, 0)], [], h⟩
theorem slices_Equal_api_Change_api_Change.f_eq {call : Cl} {n : Nat} {J : Jn (AEnd × H)} (hJ : slices_Equal_api_Change_api_Change.F call n J) (x0 x1 : AV) (h : H) : slices_Equal_api_Change_api_Change.f J x0 x1 h =
  (lnSl x0).bind fun v1 =>
  (lnSl x1).bind fun v2 =>
  (bin .neq v1 v2).bind fun v3 =>
  condV v3 (
    some (AEnd.ret (.bool false), h)) (
    (lnSl x0).bind fun v4 =>
    slices_Equal_api_Change_api_Change.l0 J n x0 x1 v4 (.int .i64 0) h) := (hJ _ _ _ (by kernel_rfl)).trans (by kernel_rfl)
theorem slices_Equal_api_Change_api_Change.l0_eq {call : Cl} {n : Nat} {J : Jn (AEnd × H)} (hJ : slices_Equal_api_Change_api_Change.F call n J) (m0 : Nat) (x0 x1 x12 x13 : AV) (h : H) : slices_Equal_api_Change_api_Change.l0 J (m0 + 1) x0 x1 x12 x13 h =
  (bin .lss x13 x12).bind fun v5 =>
  condV v5 (
    (ixSlice 11 x0 x13).bind fun v6 =>
    (ldAgg 11 h v6).bind fun v7 =>
    (ixSlice 11 x1 x13).bind fun v8 =>
    (ldAgg 11 h v8).bind fun v9 =>
    (eqv true (aeq Tryz.prog 20 t_api_Change v7 v9)).bind fun v10 =>
    condV v10 (
      some (AEnd.ret (.bool false), h)) (
      (bin .add x13 (.int .i64 1)).bind fun v11 =>
      slices_Equal_api_Change_api_Change.l0 J m0 x0 x1 x12 v11 h)) (
    some (AEnd.ret (.bool true), h)) := (hJ _ _ _ (by kernel_rfl)).trans (by kernel_rfl)
/-! ### warrantor/rec.batch: function 53 -/
noncomputable def rec_batch.A : FAnn := { nv := 2, mv := [(1, 9)], ld := [], lst := [], obj := [], q := [], raw := [] }
noncomputable def rec_batch.an : Ann := .nil
noncomputable abbrev rec_batch.c : Code := Tryz.f53.body.getD .skip
noncomputable def rec_batch.J (call : Cl) (n : Nat) : Jn (AEnd × H) := realJ Tryz.prog rec_batch.A call Tryz.f53 rec_batch.an rec_batch.c n
abbrev rec_batch.F (call : Cl) (n : Nat) (J : Jn (AEnd × H)) : Prop := JFix Tryz.prog rec_batch.A call Tryz.f53 rec_batch.an rec_batch.c n J
def rec_batch.f (J : Jn (AEnd × H)) (x0 : AV) (h : H) : Option (AEnd × H) := J [] [] ⟨[(0, x0)], [], [], h⟩
theorem rec_batch.f_eq {call : Cl} {n : Nat} {J : Jn (AEnd × H)} (hJ : rec_batch.F call n J) (x0 : AV) (h : H) : rec_batch.f J x0 h =
  (lnSl x0).bind fun v1 =>
  (bin .geq v1 (.int .i64 1)).bind fun v2 =>
  condV v2 (
    (lnSl x0).bind fun v3 =>
    (bin .leq v3 (.int .i64 512)).bind fun v4 =>
    condV v4 (
      (call n_slices_ContainsFunc_api_Change_api_Change [AV.canon x0, AV.canon (.func (.func n_rec_batch_c1) [] [])] h).bind fun p5 => retOr p5.1 (fun r6p => some (AEnd.pan r6p, p5.2)) fun r6 =>
      (unOp .not r6).bind fun v7 =>
      some (AEnd.ret (AV.copy v7), p5.2)) (
      some (AEnd.ret (AV.copy (.bool false)), h))) (
    some (AEnd.ret (AV.copy (.bool false)), h)) := (hJ _ _ _ (by kernel_rfl)).trans (by kernel_rfl)
/-! ### warrantor/cur.New: function 54 -/
noncomputable def cur_New.A : FAnn := { nv := 1, mv := [], ld := [], lst := [], obj := [], q := [], raw := [] }
noncomputable def cur_New.an : Ann := .nil
noncomputable abbrev cur_New.c : Code := Tryz.f54.body.getD .skip
noncomputable def cur_New.J (call : Cl) (n : Nat) : Jn (AEnd × H) := realJ Tryz.prog cur_New.A call Tryz.f54 cur_New.an cur_New.c n
abbrev cur_New.F (call : Cl) (n : Nat) (J : Jn (AEnd × H)) : Prop := JFix Tryz.prog cur_New.A call Tryz.f54 cur_New.an cur_New.c n J
def cur_New.f (J : Jn (AEnd × H)) (h : H) : Option (AEnd × H) := J [] [] ⟨[], [], [], h⟩
theorem cur_New.f_eq {call : Cl} {n : Nat} {J : Jn (AEnd × H)} (hJ : cur_New.F call n J) (h : H) : cur_New.f J  h =
  (mkAgg [.list [] .cap] []).bind fun v1 =>
  (bx h v1).bind fun p2 =>
  some (AEnd.ret (AV.copy p2.1), p2.2) := (hJ _ _ _ (by kernel_rfl)).trans (by kernel_rfl)
/-! ### (*warrantor/cur.Pen).Text: function 55 -/
noncomputable def cur_Pen_Text.A : FAnn := { nv := 4, mv := [(1, 0), (1, 1)], ld := [], lst := [], obj := [], q := [], raw := [] }
noncomputable def cur_Pen_Text.an : Ann := .nil
noncomputable abbrev cur_Pen_Text.c : Code := Tryz.f55.body.getD .skip
noncomputable def cur_Pen_Text.J (call : Cl) (n : Nat) : Jn (AEnd × H) := realJ Tryz.prog cur_Pen_Text.A call Tryz.f55 cur_Pen_Text.an cur_Pen_Text.c n
abbrev cur_Pen_Text.F (call : Cl) (n : Nat) (J : Jn (AEnd × H)) : Prop := JFix Tryz.prog cur_Pen_Text.A call Tryz.f55 cur_Pen_Text.an cur_Pen_Text.c n J
def cur_Pen_Text.f (J : Jn (AEnd × H)) (x0 x1 : AV) (h : H) : Option (AEnd × H) := J [] [] ⟨[(0, x0), (1, x1)], [], [], h⟩
theorem cur_Pen_Text.f_eq {call : Cl} {n : Nat} {J : Jn (AEnd × H)} (hJ : cur_Pen_Text.F call n J) (x0 x1 : AV) (h : H) : cur_Pen_Text.f J x0 x1 h =
  (lnStr x1).bind fun v1 =>
  (cvInt .u64 v1).bind fun v2 =>
  (call n_cur_Pen_U [AV.canon x0, AV.canon v2] h).bind fun p3 => retOr p3.1 (fun r4p => some (AEnd.pan r4p, p3.2)) fun r4 =>
  (strBytes x1).bind fun v5 =>
  (call n_cur_Pen_put [AV.canon x0, AV.canon v5] p3.2).bind fun p6 => retOr p6.1 (fun r7p => some (AEnd.pan r7p, p6.2)) fun r7 =>
  some (AEnd.ret (.tuple []), p6.2) := (hJ _ _ _ (by kernel_rfl)).trans (by kernel_rfl)
/-! ### warrantor/rec.body: function 56 -/
noncomputable def rec_body.A : FAnn := { nv := 8, mv := [(3, 0), (12, 0)], ld := [], lst := [], obj := [], q := [], raw := [] }
noncomputable def rec_body.an : Ann := .mk none .nil (.mk none .nil (.mk none .nil (.mk none (.mk none .nil (.mk none (.mk none (.mk (some [(3, 0), (16, 0), (17, 0), (18, 0)]) .nil (.mk none .nil (.mk none (.mk none (.mk none .nil (.mk none .nil (.mk none .nil (.mk none .nil (.mk none .nil (.mk none (.mk none (.mk (some [(3, 0), (5, 0), (16, 0), (17, 0), (18, 0), (47, 0), (48, 0), (49, 0)]) .nil .nil) .nil) .nil)))))) .nil) .nil))) .nil) .nil)) .nil)))
noncomputable abbrev rec_body.c : Code := Tryz.f56.body.getD .skip
noncomputable def rec_body.J (call : Cl) (n : Nat) : Jn (AEnd × H) := realJ Tryz.prog rec_body.A call Tryz.f56 rec_body.an rec_body.c n
abbrev rec_body.F (call : Cl) (n : Nat) (J : Jn (AEnd × H)) : Prop := JFix Tryz.prog rec_body.A call Tryz.f56 rec_body.an rec_body.c n J
def rec_body.f (J : Jn (AEnd × H)) (x0 : AV) (h : H) : Option (AEnd × H) := J [] [] ⟨[(0, x0)], [], [], h⟩
def rec_body.l0 (J : Jn (AEnd × H)) (m0 : Nat) (x3 x16 x17 x18 : AV) (h : H) : Option (AEnd × H) := J [1, 1, 1, 0, 1, 0] [m0] ⟨[(3, x3), (16, x16), (17, x17), (18, x18)], [(3, 0), (16, 0), (17, 0), (18, 0)], [], h⟩
def rec_body.l1 (J : Jn (AEnd × H)) (m0 m1 : Nat) (x3 x5 x16 x17 x18 x47 x48 x49 : AV) (h : H) : Option (AEnd × H) := J [1, 1, 1, 0, 1, 0, 0, 1, 1, 0, 0, 1, 1, 1, 1, 1, 0] [m0, m1] ⟨[(3, x3), (5, x5), (16, x16), (17, x17), (18, x18), (47, x47), (48, x48), (49, x49)], [(3, 0), (5, 0), (16, 0), (17, 0), (18, 0), (47, 0), (48, 0), (49, 0)], [], h⟩
theorem rec_body.f_eq {call : Cl} {n : Nat} {J : Jn (AEnd × H)} (hJ : rec_body.F call n J) (x0 : AV) (h : H) : rec_body.f J x0 h =
  (call n_cur_New [] h).bind fun p1 => retOr p1.1 (fun r2p => some (AEnd.pan r2p, p1.2)) fun r2 =>
  (mkAgg [.nilPtr] [(0, 1, AV.copy r2)]).bind fun v3 =>
  let h4 : H := p1.2 ++ [.arr [.nilPtr] false]
  (stN 1 h4 (.ptr p1.2.length 0) v3).bind fun p5 =>
  (fAddr 0 (.ptr p1.2.length 0)).bind fun v6 =>
  (ldCell p5.2 v6).bind fun v7 =>
  (lnSl x0).bind fun v8 =>
  (cvInt .u64 v8).bind fun v9 =>
  (call n_cur_Pen_U [AV.canon v7, AV.canon v9] p5.2).bind fun p10 => retOr p10.1 (fun r11p => some (AEnd.pan r11p, p10.2)) fun r11 =>
  (lnSl x0).bind fun v12 =>
  rec_body.l0 J n (.ptr p1.2.length 0) x0 v12 (.int .i64 0) p10.2 := (hJ _ _ _ (by kernel_rfl)).trans (by kernel_rfl)
theorem rec_body.l0_eq {call : Cl} {n : Nat} {J : Jn (AEnd × H)} (hJ : rec_body.F call n J) (m0 : Nat) (x3 x16 x17 x18 : AV) (h : H) : rec_body.l0 J (m0 + 1) x3 x16 x17 x18 h =
  (bin .lss x18 x17).bind fun v13 =>
  condV v13 (
    (ixSlice 11 x16 x18).bind fun v14 =>
    (ldAgg 11 h v14).bind fun v15 =>
    let h16 : H := h ++ [.arr [.int .i64 0, .int .u64 0, .int .i64 0, .int .i64 0, .str [], .str [], .int .i64 0, .str [], .int .i64 0, .int .i64 0, .str []] false]
    (stN 11 h16 (.ptr h.length 0) (AV.copy v15)).bind fun p17 =>
    (fAddr 0 x3).bind fun v18 =>
    (ldCell p17.2 v18).bind fun v19 =>
    (fAddr 0 (.ptr h.length 0)).bind fun v20 =>
    (ldCell p17.2 v20).bind fun v21 =>
    (cvInt .u64 v21).bind fun v22 =>
    (call n_cur_Pen_U [AV.canon v19, AV.canon v22] p17.2).bind fun p23 => retOr p23.1 (fun r24p => some (AEnd.pan r24p, p23.2)) fun r24 =>
    (fAddr 0 x3).bind fun v25 =>
    (ldCell p23.2 v25).bind fun v26 =>
    (fAddr 1 (.ptr h.length 0)).bind fun v27 =>
    (fAddr 0 v27).bind fun v28 =>
    (ldCell p23.2 v28).bind fun v29 =>
    (cvInt .u32 v29).bind fun v30 =>
    (call n_cur_Pen_Word [AV.canon v26, AV.canon v30] p23.2).bind fun p31 => retOr p31.1 (fun r32p => some (AEnd.pan r32p, p31.2)) fun r32 =>
    (fAddr 0 x3).bind fun v33 =>
    (ldCell p31.2 v33).bind fun v34 =>
    (fAddr 1 (.ptr h.length 0)).bind fun v35 =>
    (fAddr 0 v35).bind fun v36 =>
    (ldCell p31.2 v36).bind fun v37 =>
    (bin .shr v37 (.int .u64 32)).bind fun v38 =>
    (cvInt .u32 v38).bind fun v39 =>
    (call n_cur_Pen_Word [AV.canon v34, AV.canon v39] p31.2).bind fun p40 => retOr p40.1 (fun r41p => some (AEnd.pan r41p, p40.2)) fun r41 =>
    (call n_rec_kinds [] p40.2).bind fun p42 => retOr p42.1 (fun _ => none) fun r43 =>
    (fAddr 0 (.ptr h.length 0)).bind fun v44 =>
    (ldCell p42.2 v44).bind fun v45 =>
    whenB (eqO (ldCell p40.2 v44) v45) (
      (lkMap .int (.agg [.list [] .cap, .list [] .cap, .nilFunc]) p42.2 r43 v45 false).bind fun v46 =>
      (fCell 0 v46).bind fun v47 =>
      (lnSl v47).bind fun v48 =>
      rec_body.l1 J m0 n x3 (.ptr h.length 0) x16 x17 x18 v47 v48 (.int .i64 0) p42.2)) (
    (fAddr 0 x3).bind fun v49 =>
    (ldCell h v49).bind fun v50 =>
    (call n_cur_Pen_Bytes [AV.canon v50] h).bind fun p51 => retOr p51.1 (fun r52p => some (AEnd.pan r52p, p51.2)) fun r52 =>
    some (AEnd.ret r52, p51.2)) := (hJ _ _ _ (by kernel_rfl)).trans (by kernel_rfl)
theorem rec_body.l1_eq {call : Cl} {n : Nat} {J : Jn (AEnd × H)} (hJ : rec_body.F call n J) (m0 m1 : Nat) (x3 x5 x16 x17 x18 x47 x48 x49 : AV) (h : H) : rec_body.l1 J m0 (m1 + 1) x3 x5 x16 x17 x18 x47 x48 x49 h =
  (bin .lss x49 x48).bind fun v53 =>
  condV v53 (
    (ixSlice 1 x47 x49).bind fun v54 =>
    (ldCell h v54).bind fun v55 =>
    (ldAgg 1 h x3).bind fun v56 =>
    (fAddr 1 x5).bind fun v57 =>
    (ldAgg 10 h v57).bind fun v58 =>
    (callVal call h v55 [AV.canon v56, AV.canon v58]).bind fun p59 => retOr p59.1 (fun r60p => some (AEnd.pan r60p, p59.2)) fun r60 =>
    (bin .add x49 (.int .i64 1)).bind fun v61 =>
    rec_body.l1 J m0 m1 x3 x5 x16 x17 x18 x47 x48 v61 p59.2) (
    (bin .add x18 (.int .i64 1)).bind fun v62 =>
    rec_body.l0 J m0 x3 x16 x17 v62 h) := (hJ _ _ _ (by kernel_rfl)).trans (by kernel_rfl)
/-! ### (*warrantor/cur.Pen).Word: function 57 -/
noncomputable def cur_Pen_Word.A : FAnn := { nv := 4, mv := [(0, 0), (0, 9)], ld := [], lst := [], obj := [], q := [], raw := [] }
noncomputable def cur_Pen_Word.an : Ann := .nil
noncomputable abbrev cur_Pen_Word.c : Code := Tryz.f57.body.getD .skip
noncomputable def cur_Pen_Word.J (call : Cl) (n : Nat) : Jn (AEnd × H) := realJ Tryz.prog cur_Pen_Word.A call Tryz.f57 cur_Pen_Word.an cur_Pen_Word.c n
abbrev cur_Pen_Word.F (call : Cl) (n : Nat) (J : Jn (AEnd × H)) : Prop := JFix Tryz.prog cur_Pen_Word.A call Tryz.f57 cur_Pen_Word.an cur_Pen_Word.c n J
def cur_Pen_Word.f (J : Jn (AEnd × H)) (x0 x1 : AV) (h : H) : Option (AEnd × H) := J [] [] ⟨[(0, x0), (1, x1)], [], [], h⟩
theorem cur_Pen_Word.f_eq {call : Cl} {n : Nat} {J : Jn (AEnd × H)} (hJ : cur_Pen_Word.F call n J) (x0 x1 : AV) (h : H) : cur_Pen_Word.f J x0 x1 h =
  (cvInt .u8 x1).bind fun v1 =>
  (bin .shr x1 (.int .u64 8)).bind fun v2 =>
  (cvInt .u8 v2).bind fun v3 =>
  (bin .shr x1 (.int .u64 16)).bind fun v4 =>
  (cvInt .u8 v4).bind fun v5 =>
  (bin .shr x1 (.int .u64 24)).bind fun v6 =>
  (cvInt .u8 v6).bind fun v7 =>
  (mkRows 1 [.int .u8 0] 4 [(0, v1), (1, v3), (2, v5), (3, v7)]).bind fun v8 =>
  (call n_cur_Pen_put [AV.canon x0, AV.canon v8] h).bind fun p9 => retOr p9.1 (fun r10p => some (AEnd.pan r10p, p9.2)) fun r10 =>
  some (AEnd.ret (.tuple []), p9.2) := (hJ _ _ _ (by kernel_rfl)).trans (by kernel_rfl)
/-! ### warrantor/crc.Sum: function 58 -/
noncomputable def crc_Sum.A : FAnn := { nv := 2, mv := [(1, 0)], ld := [], lst := [], obj := [], q := [], raw := [] }
noncomputable def crc_Sum.an : Ann := .nil
noncomputable abbrev crc_Sum.c : Code := Tryz.f58.body.getD .skip
noncomputable def crc_Sum.J (call : Cl) (n : Nat) : Jn (AEnd × H) := realJ Tryz.prog crc_Sum.A call Tryz.f58 crc_Sum.an crc_Sum.c n
abbrev crc_Sum.F (call : Cl) (n : Nat) (J : Jn (AEnd × H)) : Prop := JFix Tryz.prog crc_Sum.A call Tryz.f58 crc_Sum.an crc_Sum.c n J
def crc_Sum.f (J : Jn (AEnd × H)) (x0 : AV) (h : H) : Option (AEnd × H) := J [] [] ⟨[(0, x0)], [], [], h⟩
theorem crc_Sum.f_eq {call : Cl} {n : Nat} {J : Jn (AEnd × H)} (hJ : crc_Sum.F call n J) (x0 : AV) (h : H) : crc_Sum.f J x0 h =
  (call n_crc_More [AV.canon (.int .u32 0), AV.canon x0] h).bind fun p1 => retOr p1.1 (fun r2p => some (AEnd.pan r2p, p1.2)) fun r2 =>
  some (AEnd.ret r2, p1.2) := (hJ _ _ _ (by kernel_rfl)).trans (by kernel_rfl)
/-! ### (*warrantor/cur.Pen).Bytes: function 59 -/
noncomputable def cur_Pen_Bytes.A : FAnn := { nv := 2, mv := [(3, 0)], ld := [], lst := [], obj := [], q := [], raw := [] }
noncomputable def cur_Pen_Bytes.an : Ann := .nil
noncomputable abbrev cur_Pen_Bytes.c : Code := Tryz.f59.body.getD .skip
noncomputable def cur_Pen_Bytes.J (call : Cl) (n : Nat) : Jn (AEnd × H) := realJ Tryz.prog cur_Pen_Bytes.A call Tryz.f59 cur_Pen_Bytes.an cur_Pen_Bytes.c n
abbrev cur_Pen_Bytes.F (call : Cl) (n : Nat) (J : Jn (AEnd × H)) : Prop := JFix Tryz.prog cur_Pen_Bytes.A call Tryz.f59 cur_Pen_Bytes.an cur_Pen_Bytes.c n J
def cur_Pen_Bytes.f (J : Jn (AEnd × H)) (x0 : AV) (h : H) : Option (AEnd × H) := J [] [] ⟨[(0, x0)], [], [], h⟩
theorem cur_Pen_Bytes.f_eq {call : Cl} {n : Nat} {J : Jn (AEnd × H)} (hJ : cur_Pen_Bytes.F call n J) (x0 : AV) (h : H) : cur_Pen_Bytes.f J x0 h =
  (eqv false (aeq Tryz.prog 20 84 x0 .nilPtr)).bind fun v1 =>
  condV v1 (
    some (AEnd.ret (.list [] .cap), h)) (
    (nilOk x0).bind fun v2 =>
    (fAddr 0 v2).bind fun v3 =>
    (ldCell h v3).bind fun v4 =>
    (call n_slices_Clone_byte_byte [AV.canon v4] h).bind fun p5 => retOr p5.1 (fun r6p => some (AEnd.pan r6p, p5.2)) fun r6 =>
    some (AEnd.ret r6, p5.2)) := (hJ _ _ _ (by kernel_rfl)).trans (by kernel_rfl)
/-! ### warrantor/cur.From: function 60 -/
noncomputable def cur_From.A : FAnn := { nv := 2, mv := [(1, 0)], ld := [], lst := [], obj := [], q := [], raw := [] }
noncomputable def cur_From.an : Ann := .nil
noncomputable abbrev cur_From.c : Code := Tryz.f60.body.getD .skip
noncomputable def cur_From.J (call : Cl) (n : Nat) : Jn (AEnd × H) := realJ Tryz.prog cur_From.A call Tryz.f60 cur_From.an cur_From.c n
abbrev cur_From.F (call : Cl) (n : Nat) (J : Jn (AEnd × H)) : Prop := JFix Tryz.prog cur_From.A call Tryz.f60 cur_From.an cur_From.c n J
def cur_From.f (J : Jn (AEnd × H)) (x0 : AV) (h : H) : Option (AEnd × H) := J [] [] ⟨[(0, x0)], [], [], h⟩
theorem cur_From.f_eq {call : Cl} {n : Nat} {J : Jn (AEnd × H)} (hJ : cur_From.F call n J) (x0 : AV) (h : H) : cur_From.f J x0 h =
  (call n_slices_Clone_byte_byte [AV.canon x0] h).bind fun p1 => retOr p1.1 (fun r2p => some (AEnd.pan r2p, p1.2)) fun r2 =>
  (mkAgg [.list [] .cap, .int .i64 0, .int .i64 0] [(0, 1, AV.copy r2)]).bind fun v3 =>
  (bx p1.2 v3).bind fun p4 =>
  some (AEnd.ret (AV.copy p4.1), p4.2) := (hJ _ _ _ (by kernel_rfl)).trans (by kernel_rfl)
/-! ### (*warrantor/cur.Reader).Text: function 61 -/
noncomputable def cur_Reader_Text.A : FAnn := { nv := 4, mv := [(1, 0)], ld := [], lst := [], obj := [], q := [], raw := [] }
noncomputable def cur_Reader_Text.an : Ann := .nil
noncomputable abbrev cur_Reader_Text.c : Code := Tryz.f61.body.getD .skip
noncomputable def cur_Reader_Text.J (call : Cl) (n : Nat) : Jn (AEnd × H) := realJ Tryz.prog cur_Reader_Text.A call Tryz.f61 cur_Reader_Text.an cur_Reader_Text.c n
abbrev cur_Reader_Text.F (call : Cl) (n : Nat) (J : Jn (AEnd × H)) : Prop := JFix Tryz.prog cur_Reader_Text.A call Tryz.f61 cur_Reader_Text.an cur_Reader_Text.c n J
def cur_Reader_Text.f (J : Jn (AEnd × H)) (x0 x1 : AV) (h : H) : Option (AEnd × H) := J [] [] ⟨[(0, x0), (1, x1)], [], [], h⟩
theorem cur_Reader_Text.f_eq {call : Cl} {n : Nat} {J : Jn (AEnd × H)} (hJ : cur_Reader_Text.F call n J) (x0 x1 : AV) (h : H) : cur_Reader_Text.f J x0 x1 h =
  (bx h (AV.copy x1)).bind fun p1 =>
  (call n_cur_ask_string [AV.canon x0, AV.canon (.func (.func n_cur_Reader_Text_c1) [] [AV.copy p1.1])] p1.2).bind fun p2 => retOr p2.1 (fun r3p => some (AEnd.pan r3p, p2.2)) fun r3 =>
  some (AEnd.ret r3, p2.2) := (hJ _ _ _ (by kernel_rfl)).trans (by kernel_rfl)
/-! ### (*warrantor/cur.Reader).At: function 62 -/
noncomputable def cur_Reader_At.A : FAnn := { nv := 2, mv := [(3, 0)], ld := [], lst := [], obj := [], q := [], raw := [] }
noncomputable def cur_Reader_At.an : Ann := .nil
noncomputable abbrev cur_Reader_At.c : Code := Tryz.f62.body.getD .skip
noncomputable def cur_Reader_At.J (call : Cl) (n : Nat) : Jn (AEnd × H) := realJ Tryz.prog cur_Reader_At.A call Tryz.f62 cur_Reader_At.an cur_Reader_At.c n
abbrev cur_Reader_At.F (call : Cl) (n : Nat) (J : Jn (AEnd × H)) : Prop := JFix Tryz.prog cur_Reader_At.A call Tryz.f62 cur_Reader_At.an cur_Reader_At.c n J
def cur_Reader_At.f (J : Jn (AEnd × H)) (x0 : AV) (h : H) : Option (AEnd × H) := J [] [] ⟨[(0, x0)], [], [], h⟩
theorem cur_Reader_At.f_eq {call : Cl} {n : Nat} {J : Jn (AEnd × H)} (hJ : cur_Reader_At.F call n J) (x0 : AV) (h : H) : cur_Reader_At.f J x0 h =
  (eqv false (aeq Tryz.prog 20 90 x0 .nilPtr)).bind fun v1 =>
  condV v1 (
    some (AEnd.ret (.int .i64 0), h)) (
    (nilOk x0).bind fun v2 =>
    (fAddr 1 v2).bind fun v3 =>
    (ldCell h v3).bind fun v4 =>
    some (AEnd.ret (AV.copy v4), h)) := (hJ _ _ _ (by kernel_rfl)).trans (by kernel_rfl)
end Go.Proofs.YtdlnkfghgbddhaaGreat
