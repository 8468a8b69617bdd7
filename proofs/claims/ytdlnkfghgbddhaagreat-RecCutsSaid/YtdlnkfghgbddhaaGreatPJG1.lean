import Derived.Test.YtdlnkfghgbddhaaGreatVa5
import Derived.Test.YtdlnkfghgbddhaaGreatProg
import Derived.Test.YtdlnkfghgbddhaaGreatPJN
set_option linter.all false
open Go Go.Ve Go.Proofs
namespace Go.Proofs.YtdlnkfghgbddhaaGreat
set_option maxRecDepth 100000
noncomputable def law27_RecChecks.A : FAnn := { nv := 8, mv := [(4, 19), (4, 28)], ld := [], lst := [], obj := [], q := [14, 16, 17, 18, 19, 20], raw := [] }
noncomputable def law27_RecChecks.an : Ann := .mk none .nil (.mk none (.mk none .nil (.mk (some [(2, 0), (3, 0), (4, 0), (18, 0)]) .nil .nil)) (.mk (some [(2, 0), (3, 0), (4, 0)]) .nil .nil))
noncomputable abbrev law27_RecChecks.c : Code := Tryz.f3.body.getD .skip
noncomputable def law27_RecChecks.J (call : Cl) (n : Nat) : Jn (AEnd × H) := realJ Tryz.prog law27_RecChecks.A call Tryz.f3 law27_RecChecks.an law27_RecChecks.c n
abbrev law27_RecChecks.F (call : Cl) (n : Nat) (J : Jn (AEnd × H)) : Prop := JFix Tryz.prog law27_RecChecks.A call Tryz.f3 law27_RecChecks.an law27_RecChecks.c n J
def law27_RecChecks.f (J : Jn (AEnd × H)) (x0 x1 x2 : AV) (h : H) : Option (AEnd × H) := J [] [] ⟨[(0, x0), (1, x1), (2, x2)], [], [], h⟩
def law27_RecChecks.j1 (J : Jn (AEnd × H)) (x2 x3 x4 x18 : AV) (h : H) : Option (AEnd × H) := J [1, 0, 1] [] ⟨[(2, x2), (3, x3), (4, x4), (18, x18)], [(2, 0), (3, 0), (4, 0), (18, 0)], [], h⟩
def law27_RecChecks.j0 (J : Jn (AEnd × H)) (x2 x3 x4 : AV) (h : H) : Option (AEnd × H) := J [1, 1] [] ⟨[(2, x2), (3, x3), (4, x4)], [(2, 0), (3, 0), (4, 0)], [], h⟩
theorem law27_RecChecks.f_eq {call : Cl} {n : Nat} {J : Jn (AEnd × H)} (hJ : law27_RecChecks.F call n J) (x0 x1 x2 : AV) (h : H) : law27_RecChecks.f J x0 x1 x2 h =
  (bx h (AV.copy x0)).bind fun p1 =>
  (bx p1.2 (AV.copy x1)).bind fun p2 =>
  (ldAgg 10 p2.2 p1.1).bind fun v3 =>
  (call n_warrantorref27_LargeEntry [AV.canon v3] p2.2).bind fun p4 => retOr p4.1 (fun r5p => some (AEnd.pan r5p, p4.2)) fun r5 =>
  condV r5 (
    law27_RecChecks.j1 J  x2 p1.1 p2.1 (.bool true) p4.2) (
    (ldAgg 11 p4.2 p2.1).bind fun v6 =>
    (mkRows 11 [.int .i64 0, .int .u64 0, .int .i64 0, .int .i64 0, .str [], .str [], .int .i64 0, .str [], .int .i64 0, .int .i64 0, .str []] 1 [(0, v6)]).bind fun v7 =>
    (call n_warrantorref27_Large [AV.canon v7, AV.canon (.int .i64 1)] p4.2).bind fun p8 => retOr p8.1 (fun r9p => some (AEnd.pan r9p, p8.2)) fun r9 =>
    condV r9 (
      law27_RecChecks.j1 J  x2 p1.1 p2.1 (.bool true) p8.2) (
      (call n_warrantorref27_Large [AV.canon x2, AV.canon (.int .i64 60)] p8.2).bind fun p10 => retOr p10.1 (fun r11p => some (AEnd.pan r11p, p10.2)) fun r11 =>
      law27_RecChecks.j1 J  x2 p1.1 p2.1 r11 p10.2)) := (hJ _ _ _ (by kernel_rfl)).trans (by kernel_rfl)
theorem law27_RecChecks.j1_eq {call : Cl} {n : Nat} {J : Jn (AEnd × H)} (hJ : law27_RecChecks.F call n J) (x2 x3 x4 x18 : AV) (h : H) : law27_RecChecks.j1 J  x2 x3 x4 x18 h =
  condV x18 (
    (call n_warrantorlaw27_lives [] h).bind fun p12 => retOr p12.1 (fun r13p => some (AEnd.pan r13p, p12.2)) fun r13 =>
    some (AEnd.ret r13, p12.2)) (
    law27_RecChecks.j0 J  x2 x3 x4 h) := (hJ _ _ _ (by kernel_rfl)).trans (by kernel_rfl)
theorem law27_RecChecks.j0_eq {call : Cl} {n : Nat} {J : Jn (AEnd × H)} (hJ : law27_RecChecks.F call n J) (x2 x3 x4 : AV) (h : H) : law27_RecChecks.j0 J  x2 x3 x4 h =
  (ldAgg 11 h x4).bind fun v14 =>
  (call n_rec_Check [AV.canon v14] h).bind fun p15 => retOr p15.1 (fun r16p => some (AEnd.pan r16p, p15.2)) fun r16 =>
  (call n_warrantorlaw27_lives [] p15.2).bind fun p17 => retOr p17.1 (fun _ => none) fun r18 =>
  condV r18 (
    (ldAgg 10 p17.2 x3).bind fun v19 =>
    (call n_rec_Right [AV.canon v19] p17.2).bind fun p20 => retOr p20.1 (fun _ => none) fun r21 =>
    (ldAgg 10 p20.2 x3).bind fun v22 =>
    (call n_warrantorref27_Right [AV.canon v22] p20.2).bind fun p23 => retOr p23.1 (fun _ => none) fun r24 =>
    (binBool .eql r21 r24).bind fun v25 =>
    condV v25 (
      (bin .eql r16 (.int .i64 0)).bind fun v26 =>
      (ldAgg 11 p23.2 x4).bind fun v27 =>
      (call n_warrantorref27_Check [AV.canon v27] p23.2).bind fun p28 => retOr p28.1 (fun _ => none) fun r29 =>
      (binBool .eql v26 r29).bind fun v30 =>
      condV v30 (
        (bin .eql r16 (.int .i64 0)).bind fun v31 =>
        condV v31 (
          (ldAgg 11 p28.2 x4).bind fun v32 =>
          (mkRows 11 [.int .i64 0, .int .u64 0, .int .i64 0, .int .i64 0, .str [], .str [], .int .i64 0, .str [], .int .i64 0, .int .i64 0, .str []] 1 [(0, v32)]).bind fun v33 =>
          (call n_rec_Same [AV.canon x2, AV.canon v33] p28.2).bind fun p34 => retOr p34.1 (fun _ => none) fun r35 =>
          (ldAgg 11 p34.2 x4).bind fun v36 =>
          (mkRows 11 [.int .i64 0, .int .u64 0, .int .i64 0, .int .i64 0, .str [], .str [], .int .i64 0, .str [], .int .i64 0, .int .i64 0, .str []] 1 [(0, v36)]).bind fun v37 =>
          (call n_warrantorref27_Same [AV.canon x2, AV.canon v37] p34.2).bind fun p38 => retOr p38.1 (fun _ => none) fun r39 =>
          (binBool .eql r35 r39).bind fun v40 =>
          some (AEnd.ret (AV.copy v40), p38.2)) (
          (bin .eql r16 (.int .i64 270)).bind fun v41 =>
          condV v41 (
            (ldAgg 11 p28.2 x4).bind fun v42 =>
            (mkRows 11 [.int .i64 0, .int .u64 0, .int .i64 0, .int .i64 0, .str [], .str [], .int .i64 0, .str [], .int .i64 0, .int .i64 0, .str []] 1 [(0, v42)]).bind fun v43 =>
            (call n_rec_Same [AV.canon x2, AV.canon v43] p28.2).bind fun p44 => retOr p44.1 (fun _ => none) fun r45 =>
            (ldAgg 11 p44.2 x4).bind fun v46 =>
            (mkRows 11 [.int .i64 0, .int .u64 0, .int .i64 0, .int .i64 0, .str [], .str [], .int .i64 0, .str [], .int .i64 0, .int .i64 0, .str []] 1 [(0, v46)]).bind fun v47 =>
            (call n_warrantorref27_Same [AV.canon x2, AV.canon v47] p44.2).bind fun p48 => retOr p48.1 (fun _ => none) fun r49 =>
            (binBool .eql r45 r49).bind fun v50 =>
            some (AEnd.ret (AV.copy v50), p48.2)) (
            some (AEnd.ret (AV.copy (.bool false)), p28.2)))) (
        some (AEnd.ret (AV.copy (.bool false)), p28.2))) (
      some (AEnd.ret (AV.copy (.bool false)), p23.2))) (
    some (AEnd.ret (AV.copy (.bool false)), p17.2)) := (hJ _ _ _ (by kernel_rfl)).trans (by kernel_rfl)
noncomputable def law27_RecPuts.A : FAnn := { nv := 10, mv := [(7, 0), (7, 3), (8, 3), (9, 0), (9, 11), (9, 15), (9, 16), (9, 21), (9, 22)], ld := [], lst := [], obj := [], q := [20, 24], raw := [] }
noncomputable def law27_RecPuts.an : Ann := .mk none .nil (.mk none (.mk none .nil (.mk (some [(0, 0), (1, 0), (16, 0)]) .nil .nil)) (.mk (some [(0, 0), (1, 0)]) .nil .nil))
noncomputable abbrev law27_RecPuts.c : Code := Tryz.f4.body.getD .skip
noncomputable def law27_RecPuts.J (call : Cl) (n : Nat) : Jn (AEnd × H) := realJ Tryz.prog law27_RecPuts.A call Tryz.f4 law27_RecPuts.an law27_RecPuts.c n
abbrev law27_RecPuts.F (call : Cl) (n : Nat) (J : Jn (AEnd × H)) : Prop := JFix Tryz.prog law27_RecPuts.A call Tryz.f4 law27_RecPuts.an law27_RecPuts.c n J
def law27_RecPuts.f (J : Jn (AEnd × H)) (x0 x1 : AV) (h : H) : Option (AEnd × H) := J [] [] ⟨[(0, x0), (1, x1)], [], [], h⟩
def law27_RecPuts.j1 (J : Jn (AEnd × H)) (x0 x1 x16 : AV) (h : H) : Option (AEnd × H) := J [1, 0, 1] [] ⟨[(0, x0), (1, x1), (16, x16)], [(0, 0), (1, 0), (16, 0)], [], h⟩
def law27_RecPuts.j0 (J : Jn (AEnd × H)) (x0 x1 : AV) (h : H) : Option (AEnd × H) := J [1, 1] [] ⟨[(0, x0), (1, x1)], [(0, 0), (1, 0)], [], h⟩
theorem law27_RecPuts.f_eq {call : Cl} {n : Nat} {J : Jn (AEnd × H)} (hJ : law27_RecPuts.F call n J) (x0 x1 : AV) (h : H) : law27_RecPuts.f J x0 x1 h =
  (call n_warrantorref27_Large [AV.canon x0, AV.canon (.int .i64 520)] h).bind fun p1 => retOr p1.1 (fun r2p => some (AEnd.pan r2p, p1.2)) fun r2 =>
  condV r2 (
    law27_RecPuts.j1 J  x0 x1 (.bool true) p1.2) (
    (lnSl x1).bind fun v3 =>
    (bin .gtr v3 (.int .i64 500)).bind fun v4 =>
    law27_RecPuts.j1 J  x0 x1 v4 p1.2) := (hJ _ _ _ (by kernel_rfl)).trans (by kernel_rfl)
theorem law27_RecPuts.j1_eq {call : Cl} {n : Nat} {J : Jn (AEnd × H)} (hJ : law27_RecPuts.F call n J) (x0 x1 x16 : AV) (h : H) : law27_RecPuts.j1 J  x0 x1 x16 h =
  condV x16 (
    (call n_warrantorlaw27_lives [] h).bind fun p5 => retOr p5.1 (fun r6p => some (AEnd.pan r6p, p5.2)) fun r6 =>
    some (AEnd.ret r6, p5.2)) (
    law27_RecPuts.j0 J  x0 x1 h) := (hJ _ _ _ (by kernel_rfl)).trans (by kernel_rfl)
theorem law27_RecPuts.j0_eq {call : Cl} {n : Nat} {J : Jn (AEnd × H)} (hJ : law27_RecPuts.F call n J) (x0 x1 : AV) (h : H) : law27_RecPuts.j0 J  x0 x1 h =
  (call n_rec_Put [AV.canon x0] h).bind fun p7 => retOr p7.1 (fun r8p => some (AEnd.pan r8p, p7.2)) fun r8 =>
  (exTuple 0 r8).bind fun v9 =>
  (exTuple 1 r8).bind fun v10 =>
  (call n_warrantorlaw27_lives [] p7.2).bind fun p11 => retOr p11.1 (fun r12p => some (AEnd.pan r12p, p11.2)) fun r12 =>
  (unOp .not r12).bind fun v13 =>
  condV v13 (
    some (AEnd.ret (.bool false), p11.2)) (
    (call n_warrantorref27_Batch [AV.canon x0] p11.2).bind fun p14 => retOr p14.1 (fun r15p => some (AEnd.pan r15p, p14.2)) fun r15 =>
    (unOp .not r15).bind fun v16 =>
    condV v16 (
      (bin .eql v10 (.int .i64 270)).bind fun v17 =>
      condV v17 (
        (lnSl v9).bind fun v18 =>
        (bin .eql v18 (.int .i64 0)).bind fun v19 =>
        some (AEnd.ret (AV.copy v19), p14.2)) (
        some (AEnd.ret (AV.copy (.bool false)), p14.2))) (
      (mkRows 1 [.int .u8 0] 0 []).bind fun v20 =>
      (apSlice 1 1 true false p14.2 v20 v9).bind fun v21 =>
      (apSlice 1 1 true true p14.2 v21 x1).bind fun v22 =>
      (call n_rec_Get [AV.canon v22] p14.2).bind fun p23 => retOr p23.1 (fun r24p => some (AEnd.pan r24p, p23.2)) fun r24 =>
      (exTuple 0 r24).bind fun v25 =>
      (exTuple 1 r24).bind fun v26 =>
      (exTuple 2 r24).bind fun v27 =>
      (bin .eql v10 (.int .i64 0)).bind fun v28 =>
      condV v28 (
        (bytesStr p23.2 v9).bind fun v29 =>
        (call n_warrantorref27_Put [AV.canon x0] p23.2).bind fun p30 => retOr p30.1 (fun _ => none) fun r31 =>
        (bytesStr p30.2 r31).bind fun v32 =>
        (bin .eql v29 v32).bind fun v33 =>
        condV v33 (
          (bin .eql v27 (.int .i64 0)).bind fun v34 =>
          condV v34 (
            (lnSl v9).bind fun v35 =>
            (bin .eql v26 v35).bind fun v36 =>
            condV v36 (
              (call n_warrantorref27_Same [AV.canon x0, AV.canon v25] p30.2).bind fun p37 => retOr p37.1 (fun _ => none) fun r38 =>
              some (AEnd.ret (AV.copy r38), p37.2)) (
              some (AEnd.ret (AV.copy (.bool false)), p30.2))) (
            some (AEnd.ret (AV.copy (.bool false)), p30.2))) (
          some (AEnd.ret (AV.copy (.bool false)), p30.2))) (
        some (AEnd.ret (AV.copy (.bool false)), p23.2)))) := (hJ _ _ _ (by kernel_rfl)).trans (by kernel_rfl)
noncomputable def law27_RecGets.A : FAnn := { nv := 11, mv := [(5, 4), (5, 9), (5, 14), (7, 0), (8, 0), (8, 3), (8, 12), (8, 14), (8, 15)], ld := [], lst := [], obj := [], q := [], raw := [] }
noncomputable def law27_RecGets.an : Ann := .mk none .nil (.mk none .nil (.mk none .nil (.mk none .nil (.mk none (.mk none .nil (.mk (some [(0, 0), (3, 1), (4, 1), (5, 1), (44, 0)]) .nil .nil)) (.mk (some [(0, 0), (3, 1), (4, 1), (5, 1)]) .nil .nil)))))
noncomputable abbrev law27_RecGets.c : Code := Tryz.f5.body.getD .skip
noncomputable def law27_RecGets.J (call : Cl) (n : Nat) : Jn (AEnd × H) := realJ Tryz.prog law27_RecGets.A call Tryz.f5 law27_RecGets.an law27_RecGets.c n
abbrev law27_RecGets.F (call : Cl) (n : Nat) (J : Jn (AEnd × H)) : Prop := JFix Tryz.prog law27_RecGets.A call Tryz.f5 law27_RecGets.an law27_RecGets.c n J
def law27_RecGets.f (J : Jn (AEnd × H)) (x0 : AV) (h : H) : Option (AEnd × H) := J [] [] ⟨[(0, x0)], [], [], h⟩
def law27_RecGets.j1 (J : Jn (AEnd × H)) (x0 x3 x4 x5 x44 : AV) (h : H) : Option (AEnd × H) := J [1, 1, 1, 1, 0, 1] [] ⟨[(0, x0), (3, x3), (4, x4), (5, x5), (44, x44)], [(0, 0), (3, 1), (4, 1), (5, 1), (44, 0)], [], h⟩
def law27_RecGets.j0 (J : Jn (AEnd × H)) (x0 x3 x4 x5 : AV) (h : H) : Option (AEnd × H) := J [1, 1, 1, 1, 1] [] ⟨[(0, x0), (3, x3), (4, x4), (5, x5)], [(0, 0), (3, 1), (4, 1), (5, 1)], [], h⟩
theorem law27_RecGets.f_eq {call : Cl} {n : Nat} {J : Jn (AEnd × H)} (hJ : law27_RecGets.F call n J) (x0 : AV) (h : H) : law27_RecGets.f J x0 h =
  (lnSl x0).bind fun v1 =>
  (bin .gtr v1 (.int .i64 3000)).bind fun v2 =>
  condV v2 (
    (call n_warrantorlaw27_lives [] h).bind fun p3 => retOr p3.1 (fun r4p => some (AEnd.pan r4p, p3.2)) fun r4 =>
    some (AEnd.ret r4, p3.2)) (
    (call n_rec_Get [AV.canon x0] h).bind fun p5 => retOr p5.1 (fun r6p => some (AEnd.pan r6p, p5.2)) fun r6 =>
    (exTuple 0 r6).bind fun v7 =>
    (exTuple 1 r6).bind fun v8 =>
    (exTuple 2 r6).bind fun v9 =>
    (call n_warrantorref27_Get [AV.canon x0] p5.2).bind fun p10 => retOr p10.1 (fun r11p => some (AEnd.pan r11p, p10.2)) fun r11 =>
    (exTuple 0 r11).bind fun v12 =>
    (exTuple 1 r11).bind fun v13 =>
    (exTuple 2 r11).bind fun v14 =>
    (call n_warrantorlaw27_lives [] p10.2).bind fun p15 => retOr p15.1 (fun r16p => some (AEnd.pan r16p, p15.2)) fun r16 =>
    (unOp .not r16).bind fun v17 =>
    condV v17 (
      law27_RecGets.j1 J  x0 v7 v8 v9 (.bool true) p15.2) (
      (bin .neq v8 v13).bind fun v18 =>
      condV v18 (
        law27_RecGets.j1 J  x0 v7 v8 v9 (.bool true) p15.2) (
        (bin .neq v9 v14).bind fun v19 =>
        condV v19 (
          law27_RecGets.j1 J  x0 v7 v8 v9 (.bool true) p15.2) (
          (call n_warrantorref27_Same [AV.canon v7, AV.canon v12] p15.2).bind fun p20 => retOr p20.1 (fun r21p => some (AEnd.pan r21p, p20.2)) fun r21 =>
          (unOp .not r21).bind fun v22 =>
          law27_RecGets.j1 J  x0 v7 v8 v9 v22 p20.2)))) := (hJ _ _ _ (by kernel_rfl)).trans (by kernel_rfl)
theorem law27_RecGets.j1_eq {call : Cl} {n : Nat} {J : Jn (AEnd × H)} (hJ : law27_RecGets.F call n J) (x0 x3 x4 x5 x44 : AV) (h : H) : law27_RecGets.j1 J  x0 x3 x4 x5 x44 h =
  condV x44 (
    some (AEnd.ret (.bool false), h)) (
    law27_RecGets.j0 J  x0 x3 x4 x5 h) := (hJ _ _ _ (by kernel_rfl)).trans (by kernel_rfl)
theorem law27_RecGets.j0_eq {call : Cl} {n : Nat} {J : Jn (AEnd × H)} (hJ : law27_RecGets.F call n J) (x0 x3 x4 x5 : AV) (h : H) : law27_RecGets.j0 J  x0 x3 x4 x5 h =
  (call n_rec_Put [AV.canon x3] h).bind fun p23 => retOr p23.1 (fun r24p => some (AEnd.pan r24p, p23.2)) fun r24 =>
  (exTuple 0 r24).bind fun v25 =>
  (exTuple 1 r24).bind fun v26 =>
  (bin .neq x5 (.int .i64 0)).bind fun v27 =>
  condV v27 (
    some (AEnd.ret (AV.copy (.bool true)), p23.2)) (
    (bin .eql v26 (.int .i64 0)).bind fun v28 =>
    condV v28 (
      (lnSl x0).bind fun v29 =>
      (bin .leq x4 v29).bind fun v30 =>
      condV v30 (
        (bytesStr p23.2 v25).bind fun v31 =>
        (slSlice 1 x0 none (some x4) none).bind fun v32 =>
        (bytesStr p23.2 v32).bind fun v33 =>
        (bin .eql v31 v33).bind fun v34 =>
        some (AEnd.ret (AV.copy v34), p23.2)) (
        some (AEnd.ret (AV.copy (.bool false)), p23.2))) (
      some (AEnd.ret (AV.copy (.bool false)), p23.2))) := (hJ _ _ _ (by kernel_rfl)).trans (by kernel_rfl)
noncomputable def law27_RecBodies.A : FAnn := { nv := 9, mv := [(5, 0), (6, 0), (7, 2), (7, 6), (7, 10), (8, 2), (8, 6), (8, 7), (8, 12), (8, 13)], ld := [], lst := [], obj := [], q := [], raw := [] }
noncomputable def law27_RecBodies.an : Ann := .nil
noncomputable abbrev law27_RecBodies.c : Code := Tryz.f6.body.getD .skip
noncomputable def law27_RecBodies.J (call : Cl) (n : Nat) : Jn (AEnd × H) := realJ Tryz.prog law27_RecBodies.A call Tryz.f6 law27_RecBodies.an law27_RecBodies.c n
abbrev law27_RecBodies.F (call : Cl) (n : Nat) (J : Jn (AEnd × H)) : Prop := JFix Tryz.prog law27_RecBodies.A call Tryz.f6 law27_RecBodies.an law27_RecBodies.c n J
def law27_RecBodies.f (J : Jn (AEnd × H)) (x0 : AV) (h : H) : Option (AEnd × H) := J [] [] ⟨[(0, x0)], [], [], h⟩
theorem law27_RecBodies.f_eq {call : Cl} {n : Nat} {J : Jn (AEnd × H)} (hJ : law27_RecBodies.F call n J) (x0 : AV) (h : H) : law27_RecBodies.f J x0 h =
  (lnSl x0).bind fun v1 =>
  (bin .gtr v1 (.int .i64 2000)).bind fun v2 =>
  condV v2 (
    (call n_warrantorlaw27_lives [] h).bind fun p3 => retOr p3.1 (fun r4p => some (AEnd.pan r4p, p3.2)) fun r4 =>
    some (AEnd.ret r4, p3.2)) (
    (call n_warrantorref27_Frame [AV.canon x0] h).bind fun p5 => retOr p5.1 (fun r6p => some (AEnd.pan r6p, p5.2)) fun r6 =>
    (call n_rec_Get [AV.canon r6] p5.2).bind fun p7 => retOr p7.1 (fun r8p => some (AEnd.pan r8p, p7.2)) fun r8 =>
    (exTuple 0 r8).bind fun v9 =>
    (exTuple 1 r8).bind fun v10 =>
    (exTuple 2 r8).bind fun v11 =>
    (call n_warrantorref27_Changes [AV.canon x0] p7.2).bind fun p12 => retOr p12.1 (fun r13p => some (AEnd.pan r13p, p12.2)) fun r13 =>
    (exTuple 0 r13).bind fun v14 =>
    (exTuple 1 r13).bind fun v15 =>
    (unOp .not v15).bind fun v16 =>
    condV v16 (
      (call n_warrantorlaw27_lives [] p12.2).bind fun p17 => retOr p17.1 (fun r18p => some (AEnd.pan r18p, p17.2)) fun r18 =>
      condV r18 (
        (bin .eql v11 (.int .i64 270)).bind fun v19 =>
        condV v19 (
          (bin .eql v10 (.int .i64 0)).bind fun v20 =>
          condV v20 (
            (lnSl v9).bind fun v21 =>
            (bin .eql v21 (.int .i64 0)).bind fun v22 =>
            some (AEnd.ret (AV.copy v22), p17.2)) (
            some (AEnd.ret (AV.copy (.bool false)), p17.2))) (
          some (AEnd.ret (AV.copy (.bool false)), p17.2))) (
        some (AEnd.ret (AV.copy (.bool false)), p17.2))) (
      (call n_warrantorlaw27_lives [] p12.2).bind fun p23 => retOr p23.1 (fun r24p => some (AEnd.pan r24p, p23.2)) fun r24 =>
      condV r24 (
        (bin .eql v11 (.int .i64 0)).bind fun v25 =>
        condV v25 (
          (lnSl r6).bind fun v26 =>
          (bin .eql v10 v26).bind fun v27 =>
          condV v27 (
            (call n_warrantorref27_Same [AV.canon v9, AV.canon v14] p23.2).bind fun p28 => retOr p28.1 (fun r29p => some (AEnd.pan r29p, p28.2)) fun r29 =>
            some (AEnd.ret (AV.copy r29), p28.2)) (
            some (AEnd.ret (AV.copy (.bool false)), p23.2))) (
          some (AEnd.ret (AV.copy (.bool false)), p23.2))) (
        some (AEnd.ret (AV.copy (.bool false)), p23.2)))) := (hJ _ _ _ (by kernel_rfl)).trans (by kernel_rfl)
noncomputable def law27_RecCuts.A : FAnn := { nv := 17, mv := [(7, 1), (8, 0), (8, 3), (8, 7), (10, 0), (13, 1), (13, 4), (13, 6), (13, 8), (14, 0)], ld := [], lst := [], obj := [], q := [], raw := [] }
noncomputable def law27_RecCuts.an : Ann := .mk none .nil (.mk none (.mk none .nil (.mk (some [(0, 0), (1, 0), (2, 0), (3, 0), (23, 0)]) .nil .nil)) (.mk (some [(0, 0), (1, 0), (2, 0), (3, 0)]) .nil (.mk none .nil (.mk none (.mk none .nil (.mk (some [(0, 0), (1, 0), (2, 0), (3, 0), (9, 255), (36, 0)]) (.mk none .nil (.mk none .nil (.mk (some [(0, 0), (2, 0), (3, 0), (9, 255), (55, 0)]) .nil .nil))) .nil)) (.mk (some [(0, 0), (2, 0), (3, 0), (9, 255)]) .nil (.mk none (.mk none .nil (.mk (some [(2, 0), (3, 0), (9, 255), (13, 0), (72, 0)]) .nil .nil)) (.mk (some [(2, 0), (3, 0), (9, 255), (13, 0)]) .nil .nil)))))))
noncomputable abbrev law27_RecCuts.c : Code := Tryz.f7.body.getD .skip
noncomputable def law27_RecCuts.J (call : Cl) (n : Nat) : Jn (AEnd × H) := realJ Tryz.prog law27_RecCuts.A call Tryz.f7 law27_RecCuts.an law27_RecCuts.c n
abbrev law27_RecCuts.F (call : Cl) (n : Nat) (J : Jn (AEnd × H)) : Prop := JFix Tryz.prog law27_RecCuts.A call Tryz.f7 law27_RecCuts.an law27_RecCuts.c n J
def law27_RecCuts.f (J : Jn (AEnd × H)) (x0 x1 x2 x3 : AV) (h : H) : Option (AEnd × H) := J [] [] ⟨[(0, x0), (1, x1), (2, x2), (3, x3)], [], [], h⟩
def law27_RecCuts.j1 (J : Jn (AEnd × H)) (x0 x1 x2 x3 x23 : AV) (h : H) : Option (AEnd × H) := J [1, 0, 1] [] ⟨[(0, x0), (1, x1), (2, x2), (3, x3), (23, x23)], [(0, 0), (1, 0), (2, 0), (3, 0), (23, 0)], [], h⟩
def law27_RecCuts.j0 (J : Jn (AEnd × H)) (x0 x1 x2 x3 : AV) (h : H) : Option (AEnd × H) := J [1, 1] [] ⟨[(0, x0), (1, x1), (2, x2), (3, x3)], [(0, 0), (1, 0), (2, 0), (3, 0)], [], h⟩
def law27_RecCuts.j3 (J : Jn (AEnd × H)) (x0 x1 x2 x3 x9 x36 : AV) (h : H) : Option (AEnd × H) := J [1, 1, 1, 1, 0, 1] [] ⟨[(0, x0), (1, x1), (2, x2), (3, x3), (9, x9), (36, x36)], [(0, 0), (1, 0), (2, 0), (3, 0), (9, 255), (36, 0)], [], h⟩
def law27_RecCuts.j4 (J : Jn (AEnd × H)) (x0 x2 x3 x9 x55 : AV) (h : H) : Option (AEnd × H) := J [1, 1, 1, 1, 0, 1, 0, 1, 1] [] ⟨[(0, x0), (2, x2), (3, x3), (9, x9), (55, x55)], [(0, 0), (2, 0), (3, 0), (9, 255), (55, 0)], [], h⟩
def law27_RecCuts.j2 (J : Jn (AEnd × H)) (x0 x2 x3 x9 : AV) (h : H) : Option (AEnd × H) := J [1, 1, 1, 1, 1] [] ⟨[(0, x0), (2, x2), (3, x3), (9, x9)], [(0, 0), (2, 0), (3, 0), (9, 255)], [], h⟩
def law27_RecCuts.j6 (J : Jn (AEnd × H)) (x2 x3 x9 x13 x72 : AV) (h : H) : Option (AEnd × H) := J [1, 1, 1, 1, 1, 1, 0, 1] [] ⟨[(2, x2), (3, x3), (9, x9), (13, x13), (72, x72)], [(2, 0), (3, 0), (9, 255), (13, 0), (72, 0)], [], h⟩
def law27_RecCuts.j5 (J : Jn (AEnd × H)) (x2 x3 x9 x13 : AV) (h : H) : Option (AEnd × H) := J [1, 1, 1, 1, 1, 1, 1] [] ⟨[(2, x2), (3, x3), (9, x9), (13, x13)], [(2, 0), (3, 0), (9, 255), (13, 0)], [], h⟩
theorem law27_RecCuts.f_eq {call : Cl} {n : Nat} {J : Jn (AEnd × H)} (hJ : law27_RecCuts.F call n J) (x0 x1 x2 x3 : AV) (h : H) : law27_RecCuts.f J x0 x1 x2 x3 h =
  (call n_warrantorref27_Large [AV.canon x0, AV.canon (.int .i64 60)] h).bind fun p1 => retOr p1.1 (fun r2p => some (AEnd.pan r2p, p1.2)) fun r2 =>
  condV r2 (
    law27_RecCuts.j1 J  x0 x1 x2 x3 (.bool true) p1.2) (
    (call n_warrantorref27_Batch [AV.canon x0] p1.2).bind fun p3 => retOr p3.1 (fun r4p => some (AEnd.pan r4p, p3.2)) fun r4 =>
    (unOp .not r4).bind fun v5 =>
    law27_RecCuts.j1 J  x0 x1 x2 x3 v5 p3.2) := (hJ _ _ _ (by kernel_rfl)).trans (by kernel_rfl)
theorem law27_RecCuts.j1_eq {call : Cl} {n : Nat} {J : Jn (AEnd × H)} (hJ : law27_RecCuts.F call n J) (x0 x1 x2 x3 x23 : AV) (h : H) : law27_RecCuts.j1 J  x0 x1 x2 x3 x23 h =
  condV x23 (
    (call n_warrantorlaw27_lives [] h).bind fun p6 => retOr p6.1 (fun r7p => some (AEnd.pan r7p, p6.2)) fun r7 =>
    some (AEnd.ret r7, p6.2)) (
    law27_RecCuts.j0 J  x0 x1 x2 x3 h) := (hJ _ _ _ (by kernel_rfl)).trans (by kernel_rfl)
theorem law27_RecCuts.j0_eq {call : Cl} {n : Nat} {J : Jn (AEnd × H)} (hJ : law27_RecCuts.F call n J) (x0 x1 x2 x3 : AV) (h : H) : law27_RecCuts.j0 J  x0 x1 x2 x3 h =
  (call n_warrantorref27_Put [AV.canon x0] h).bind fun p8 => retOr p8.1 (fun r9p => some (AEnd.pan r9p, p8.2)) fun r9 =>
  (call n_warrantorlaw27_lives [] p8.2).bind fun p10 => retOr p10.1 (fun r11p => some (AEnd.pan r11p, p10.2)) fun r11 =>
  (unOp .not r11).bind fun v12 =>
  condV v12 (
    some (AEnd.ret (.bool false), p10.2)) (
    (bin .geq x1 (.int .i64 0)).bind fun v13 =>
    condV v13 (
      (lnSl r9).bind fun v14 =>
      (bin .lss x1 v14).bind fun v15 =>
      law27_RecCuts.j3 J  x0 x1 x2 x3 r9 v15 p10.2) (
      law27_RecCuts.j3 J  x0 x1 x2 x3 r9 (.bool false) p10.2)) := (hJ _ _ _ (by kernel_rfl)).trans (by kernel_rfl)
theorem law27_RecCuts.j3_eq {call : Cl} {n : Nat} {J : Jn (AEnd × H)} (hJ : law27_RecCuts.F call n J) (x0 x1 x2 x3 x9 x36 : AV) (h : H) : law27_RecCuts.j3 J  x0 x1 x2 x3 x9 x36 h =
  condV x36 (
    (slSlice 1 x9 none (some x1) none).bind fun v16 =>
    (call n_rec_Get [AV.canon v16] h).bind fun p17 => retOr p17.1 (fun r18p => some (AEnd.pan r18p, p17.2)) fun r18 =>
    (exTuple 0 r18).bind fun v19 =>
    (exTuple 1 r18).bind fun v20 =>
    (exTuple 2 r18).bind fun v21 =>
    (bin .neq v21 (.int .i64 10)).bind fun v22 =>
    condV v22 (
      law27_RecCuts.j4 J  x0 x2 x3 x9 (.bool true) p17.2) (
      (bin .neq v20 (.int .i64 0)).bind fun v23 =>
      condV v23 (
        law27_RecCuts.j4 J  x0 x2 x3 x9 (.bool true) p17.2) (
        (lnSl v19).bind fun v24 =>
        (bin .neq v24 (.int .i64 0)).bind fun v25 =>
        law27_RecCuts.j4 J  x0 x2 x3 x9 v25 p17.2))) (
    law27_RecCuts.j2 J  x0 x2 x3 x9 h) := (hJ _ _ _ (by kernel_rfl)).trans (by kernel_rfl)
theorem law27_RecCuts.j4_eq {call : Cl} {n : Nat} {J : Jn (AEnd × H)} (hJ : law27_RecCuts.F call n J) (x0 x2 x3 x9 x55 : AV) (h : H) : law27_RecCuts.j4 J  x0 x2 x3 x9 x55 h =
  condV x55 (
    some (AEnd.ret (.bool false), h)) (
    law27_RecCuts.j2 J  x0 x2 x3 x9 h) := (hJ _ _ _ (by kernel_rfl)).trans (by kernel_rfl)
theorem law27_RecCuts.j2_eq {call : Cl} {n : Nat} {J : Jn (AEnd × H)} (hJ : law27_RecCuts.F call n J) (x0 x2 x3 x9 : AV) (h : H) : law27_RecCuts.j2 J  x0 x2 x3 x9 h =
  (call n_warrantorref27_Body [AV.canon x0] h).bind fun p26 => retOr p26.1 (fun r27p => some (AEnd.pan r27p, p26.2)) fun r27 =>
  (lnSl r27).bind fun v28 =>
  (bin .add v28 (.int .i64 4)).bind fun v29 =>
  (bin .mul (.int .i64 8) v29).bind fun v30 =>
  (bin .eql x3 (.int .u32 0)).bind fun v31 =>
  condV v31 (
    law27_RecCuts.j6 J  x2 x3 x9 v30 (.bool true) p26.2) (
    (bin .lss x2 (.int .i64 0)).bind fun v32 =>
    condV v32 (
      law27_RecCuts.j6 J  x2 x3 x9 v30 (.bool true) p26.2) (
      (bin .sub v30 (.int .i64 32)).bind fun v33 =>
      (bin .gtr x2 v33).bind fun v34 =>
      law27_RecCuts.j6 J  x2 x3 x9 v30 v34 p26.2)) := (hJ _ _ _ (by kernel_rfl)).trans (by kernel_rfl)
theorem law27_RecCuts.j6_eq {call : Cl} {n : Nat} {J : Jn (AEnd × H)} (hJ : law27_RecCuts.F call n J) (x2 x3 x9 x13 x72 : AV) (h : H) : law27_RecCuts.j6 J  x2 x3 x9 x13 x72 h =
  condV x72 (
    some (AEnd.ret (.bool true), h)) (
    law27_RecCuts.j5 J  x2 x3 x9 x13 h) := (hJ _ _ _ (by kernel_rfl)).trans (by kernel_rfl)
theorem law27_RecCuts.j5_eq {call : Cl} {n : Nat} {J : Jn (AEnd × H)} (hJ : law27_RecCuts.F call n J) (x2 x3 x9 x13 : AV) (h : H) : law27_RecCuts.j5 J  x2 x3 x9 x13 h =
  (lnSl x9).bind fun v35 =>
  (bin .mul (.int .i64 8) v35).bind fun v36 =>
  (bin .sub v36 x13).bind fun v37 =>
  (bin .add v37 x2).bind fun v38 =>
  (call n_warrantorref03_Turn [AV.canon x9, AV.canon v38, AV.canon x3] h).bind fun p39 => retOr p39.1 (fun r40p => some (AEnd.pan r40p, p39.2)) fun r40 =>
  (call n_rec_Get [AV.canon r40] p39.2).bind fun p41 => retOr p41.1 (fun r42p => some (AEnd.pan r42p, p41.2)) fun r42 =>
  (exTuple 0 r42).bind fun v43 =>
  (exTuple 1 r42).bind fun v44 =>
  (exTuple 2 r42).bind fun v45 =>
  (bin .eql v45 (.int .i64 42)).bind fun v46 =>
  some (AEnd.ret (AV.copy v46), p41.2) := (hJ _ _ _ (by kernel_rfl)).trans (by kernel_rfl)
noncomputable def ref27_LargeEntry.A : FAnn := { nv := 2, mv := [], ld := [], lst := [], obj := [], q := [], raw := [] }
noncomputable def ref27_LargeEntry.an : Ann := .nil
noncomputable abbrev ref27_LargeEntry.c : Code := Tryz.f12.body.getD .skip
noncomputable def ref27_LargeEntry.J (call : Cl) (n : Nat) : Jn (AEnd × H) := realJ Tryz.prog ref27_LargeEntry.A call Tryz.f12 ref27_LargeEntry.an ref27_LargeEntry.c n
abbrev ref27_LargeEntry.F (call : Cl) (n : Nat) (J : Jn (AEnd × H)) : Prop := JFix Tryz.prog ref27_LargeEntry.A call Tryz.f12 ref27_LargeEntry.an ref27_LargeEntry.c n J
def ref27_LargeEntry.f (J : Jn (AEnd × H)) (x0 : AV) (h : H) : Option (AEnd × H) := J [] [] ⟨[(0, x0)], [], [], h⟩
theorem ref27_LargeEntry.f_eq {call : Cl} {n : Nat} {J : Jn (AEnd × H)} (hJ : ref27_LargeEntry.F call n J) (x0 : AV) (h : H) : ref27_LargeEntry.f J x0 h =
  (bx h (AV.copy x0)).bind fun p1 =>
  (fAddr 1 p1.1).bind fun v2 =>
  (ldAgg 6 p1.2 v2).bind fun v3 =>
  (mkRows 6 [.int .i64 0, .int .i64 0, .str [], .str [], .int .i64 0, .str []] 1 [(0, v3)]).bind fun v4 =>
  (call n_warrantorref17_Large [AV.canon v4] p1.2).bind fun p5 => retOr p5.1 (fun r6p => some (AEnd.pan r6p, p5.2)) fun r6 =>
  condV r6 (
    some (AEnd.ret (AV.copy (.bool true)), p5.2)) (
    (fAddr 9 p1.1).bind fun v7 =>
    (ldCell p5.2 v7).bind fun v8 =>
    (lnStr v8).bind fun v9 =>
    (bin .gtr v9 (.int .i64 200)).bind fun v10 =>
    some (AEnd.ret (AV.copy v10), p5.2)) := (hJ _ _ _ (by kernel_rfl)).trans (by kernel_rfl)
noncomputable def ref27_Large.A : FAnn := { nv := 6, mv := [(1, 2), (5, 0)], ld := [], lst := [], obj := [], q := [], raw := [] }
noncomputable def ref27_Large.an : Ann := .mk none .nil (.mk none .nil (.mk none (.mk none .nil (.mk none (.mk none (.mk (some [(0, 0), (5, 0)]) .nil .nil) .nil) .nil)) .nil))
noncomputable abbrev ref27_Large.c : Code := Tryz.f13.body.getD .skip
noncomputable def ref27_Large.J (call : Cl) (n : Nat) : Jn (AEnd × H) := realJ Tryz.prog ref27_Large.A call Tryz.f13 ref27_Large.an ref27_Large.c n
abbrev ref27_Large.F (call : Cl) (n : Nat) (J : Jn (AEnd × H)) : Prop := JFix Tryz.prog ref27_Large.A call Tryz.f13 ref27_Large.an ref27_Large.c n J
def ref27_Large.f (J : Jn (AEnd × H)) (x0 x1 : AV) (h : H) : Option (AEnd × H) := J [] [] ⟨[(0, x0), (1, x1)], [], [], h⟩
def ref27_Large.l0 (J : Jn (AEnd × H)) (m0 : Nat) (x0 x5 : AV) (h : H) : Option (AEnd × H) := J [1, 1, 0, 1, 0] [m0] ⟨[(0, x0), (5, x5)], [(0, 0), (5, 0)], [], h⟩
theorem ref27_Large.f_eq {call : Cl} {n : Nat} {J : Jn (AEnd × H)} (hJ : ref27_Large.F call n J) (x0 x1 : AV) (h : H) : ref27_Large.f J x0 x1 h =
  (lnSl x0).bind fun v1 =>
  (bin .gtr v1 x1).bind fun v2 =>
  condV v2 (
    some (AEnd.ret (.bool true), h)) (
    ref27_Large.l0 J n x0 (.int .i64 0) h) := (hJ _ _ _ (by kernel_rfl)).trans (by kernel_rfl)
theorem ref27_Large.l0_eq {call : Cl} {n : Nat} {J : Jn (AEnd × H)} (hJ : ref27_Large.F call n J) (m0 : Nat) (x0 x5 : AV) (h : H) : ref27_Large.l0 J (m0 + 1) x0 x5 h =
  (lnSl x0).bind fun v3 =>
  (bin .lss x5 v3).bind fun v4 =>
  condV v4 (
    (ixSlice 11 x0 x5).bind fun v5 =>
    (fAddr 1 v5).bind fun v6 =>
    (ldAgg 10 h v6).bind fun v7 =>
    (call n_warrantorref27_LargeEntry [AV.canon v7] h).bind fun p8 => retOr p8.1 (fun r9p => some (AEnd.pan r9p, p8.2)) fun r9 =>
    condV r9 (
      some (AEnd.ret (.bool true), p8.2)) (
      (bin .add x5 (.int .i64 1)).bind fun v10 =>
      ref27_Large.l0 J m0 x0 v10 p8.2)) (
    some (AEnd.ret (.bool false), h)) := (hJ _ _ _ (by kernel_rfl)).trans (by kernel_rfl)
noncomputable def law27_lives.A : FAnn := { nv := 14, mv := [(9, 0), (9, 8), (9, 14), (9, 18), (9, 27), (9, 31), (9, 56), (9, 57)], ld := [], lst := [], obj := [], q := [], raw := [] }
noncomputable def law27_lives.an : Ann := .nil
noncomputable abbrev law27_lives.c : Code := Tryz.f14.body.getD .skip
noncomputable def law27_lives.J (call : Cl) (n : Nat) : Jn (AEnd × H) := realJ Tryz.prog law27_lives.A call Tryz.f14 law27_lives.an law27_lives.c n
abbrev law27_lives.F (call : Cl) (n : Nat) (J : Jn (AEnd × H)) : Prop := JFix Tryz.prog law27_lives.A call Tryz.f14 law27_lives.an law27_lives.c n J
def law27_lives.f (J : Jn (AEnd × H)) (h : H) : Option (AEnd × H) := J [] [] ⟨[], [], [], h⟩
theorem law27_lives.f_eq {call : Cl} {n : Nat} {J : Jn (AEnd × H)} (hJ : law27_lives.F call n J) (h : H) : law27_lives.f J  h =
  (mkAgg [.int .u64 0, .int .i64 0, .int .i64 0, .str [], .str [], .int .i64 0, .str [], .int .i64 0, .int .i64 0, .str []] [(0, 1, AV.copy (.int .u64 7))]).bind fun v1 =>
  (mkAgg [.int .i64 0, .int .u64 0, .int .i64 0, .int .i64 0, .str [], .str [], .int .i64 0, .str [], .int .i64 0, .int .i64 0, .str []] [(0, 1, AV.copy (.int .i64 4)), (1, 10, AV.copy v1)]).bind fun v2 =>
  (mkRows 11 [.int .i64 0, .int .u64 0, .int .i64 0, .int .i64 0, .str [], .str [], .int .i64 0, .str [], .int .i64 0, .int .i64 0, .str []] 1 [(0, v2)]).bind fun v3 =>
  (call n_rec_Put [AV.canon v3] h).bind fun p4 => retOr p4.1 (fun r5p => some (AEnd.pan r5p, p4.2)) fun r5 =>
  (exTuple 0 r5).bind fun v6 =>
  (exTuple 1 r5).bind fun v7 =>
  (mkRows 1 [.int .u8 0] 0 []).bind fun v8 =>
  (apSlice 1 1 true false p4.2 v8 v6).bind fun v9 =>
  (mkRows 1 [.int .u8 0] 1 [(0, .int .u8 9)]).bind fun v10 =>
  (apSlice 1 1 true true p4.2 v9 v10).bind fun v11 =>
  (call n_rec_Get [AV.canon v11] p4.2).bind fun p12 => retOr p12.1 (fun r13p => some (AEnd.pan r13p, p12.2)) fun r13 =>
  (exTuple 0 r13).bind fun v14 =>
  (exTuple 1 r13).bind fun v15 =>
  (exTuple 2 r13).bind fun v16 =>
  (call n_rec_Put [AV.canon (.list [] .cap)] p12.2).bind fun p17 => retOr p17.1 (fun r18p => some (AEnd.pan r18p, p17.2)) fun r18 =>
  (exTuple 0 r18).bind fun v19 =>
  (exTuple 1 r18).bind fun v20 =>
  (mkRows 1 [.int .u8 0] 5 [(0, .int .u8 0), (1, .int .u8 1), (2, .int .u8 2), (3, .int .u8 3), (4, .int .u8 4)]).bind fun v21 =>
  (call n_rec_Get [AV.canon v21] p17.2).bind fun p22 => retOr p22.1 (fun r23p => some (AEnd.pan r23p, p22.2)) fun r23 =>
  (exTuple 0 r23).bind fun v24 =>
  (exTuple 1 r23).bind fun v25 =>
  (exTuple 2 r23).bind fun v26 =>
  (mkAgg [.int .i64 0, .int .i64 0, .str [], .str [], .int .i64 0, .str []] [(0, 1, AV.copy (.int .i64 1)), (1, 1, AV.copy (.int .i64 1)), (2, 1, AV.copy (.str [102])), (3, 1, AV.copy (.str [102])), (4, 1, AV.copy (.int .i64 1)), (5, 1, AV.copy (.str [120]))]).bind fun v27 =>
  (mkAgg [.int .u64 0, .int .i64 0, .int .i64 0, .str [], .str [], .int .i64 0, .str [], .int .i64 0, .int .i64 0, .str []] [(0, 1, AV.copy (.int .u64 1)), (1, 6, AV.copy v27), (7, 1, AV.copy (.int .i64 2)), (8, 1, AV.copy (.int .i64 1))]).bind fun v28 =>
  let h29 : H := p22.2 ++ [.arr [.int .u64 0, .int .i64 0, .int .i64 0, .str [], .str [], .int .i64 0, .str [], .int .i64 0, .int .i64 0, .str []] false]
  (stN 10 h29 (.ptr p22.2.length 0) v28).bind fun p30 =>
  (ldAgg 10 p30.2 (.ptr p22.2.length 0)).bind fun v31 =>
  let h32 : H := p30.2 ++ [.arr [.int .u64 0, .int .i64 0, .int .i64 0, .str [], .str [], .int .i64 0, .str [], .int .i64 0, .int .i64 0, .str []] false]
  (stN 10 h32 (.ptr p30.2.length 0) (AV.copy v31)).bind fun p33 =>
  (fAddr 9 (.ptr p30.2.length 0)).bind fun v34 =>
  (stN 1 p33.2 v34 (.str [110])).bind fun p35 =>
  (bin .eql v7 (.int .i64 0)).bind fun v36 =>
  condV v36 (
    (lnSl v6).bind fun v37 =>
    (bin .eql v37 (.int .i64 15)).bind fun v38 =>
    condV v38 (
      (slSlice 1 v6 none (some (.int .i64 11)) none).bind fun v39 =>
      (bytesStr p35.2 v39).bind fun v40 =>
      (bin .eql v40 (.str [10, 1, 4, 7, 0, 0, 0, 0, 0, 0, 0])).bind fun v41 =>
      condV v41 (
        (bin .eql v16 (.int .i64 0)).bind fun v42 =>
        condV v42 (
          (bin .eql v15 (.int .i64 15)).bind fun v43 =>
          condV v43 (
            (call n_warrantorref27_Same [AV.canon v3, AV.canon v14] p35.2).bind fun p44 => retOr p44.1 (fun r45p => some (AEnd.pan r45p, p44.2)) fun r45 =>
            condV r45 (
              (bin .eql v20 (.int .i64 270)).bind fun v46 =>
              condV v46 (
                (bin .eql v26 (.int .i64 42)).bind fun v47 =>
                condV v47 (
                  (ldAgg 10 p44.2 (.ptr p22.2.length 0)).bind fun v48 =>
                  (call n_rec_Right [AV.canon v48] p44.2).bind fun p49 => retOr p49.1 (fun r50p => some (AEnd.pan r50p, p49.2)) fun r50 =>
                  condV r50 (
                    (ldAgg 10 p49.2 (.ptr p30.2.length 0)).bind fun v51 =>
                    (call n_rec_Right [AV.canon v51] p49.2).bind fun p52 => retOr p52.1 (fun r53p => some (AEnd.pan r53p, p52.2)) fun r53 =>
                    (unOp .not r53).bind fun v54 =>
                    condV v54 (
                      (ixSlice 11 v3 (.int .i64 0)).bind fun v55 =>
                      (ldAgg 11 p52.2 v55).bind fun v56 =>
                      (call n_rec_Check [AV.canon v56] p52.2).bind fun p57 => retOr p57.1 (fun r58p => some (AEnd.pan r58p, p57.2)) fun r58 =>
                      (bin .eql r58 (.int .i64 0)).bind fun v59 =>
                      condV v59 (
                        (mkAgg [.int .i64 0, .int .u64 0, .int .i64 0, .int .i64 0, .str [], .str [], .int .i64 0, .str [], .int .i64 0, .int .i64 0, .str []] []).bind fun v60 =>
                        (call n_rec_Check [AV.canon v60] p57.2).bind fun p61 => retOr p61.1 (fun r62p => some (AEnd.pan r62p, p61.2)) fun r62 =>
                        (bin .eql r62 (.int .i64 270)).bind fun v63 =>
                        condV v63 (
                          (call n_rec_Same [AV.canon v3, AV.canon v14] p61.2).bind fun p64 => retOr p64.1 (fun r65p => some (AEnd.pan r65p, p64.2)) fun r65 =>
                          some (AEnd.ret (AV.copy r65), p64.2)) (
                          some (AEnd.ret (AV.copy (.bool false)), p61.2))) (
                        some (AEnd.ret (AV.copy (.bool false)), p57.2))) (
                      some (AEnd.ret (AV.copy (.bool false)), p52.2))) (
                    some (AEnd.ret (AV.copy (.bool false)), p49.2))) (
                  some (AEnd.ret (AV.copy (.bool false)), p44.2))) (
                some (AEnd.ret (AV.copy (.bool false)), p44.2))) (
              some (AEnd.ret (AV.copy (.bool false)), p44.2))) (
            some (AEnd.ret (AV.copy (.bool false)), p35.2))) (
          some (AEnd.ret (AV.copy (.bool false)), p35.2))) (
        some (AEnd.ret (AV.copy (.bool false)), p35.2))) (
      some (AEnd.ret (AV.copy (.bool false)), p35.2))) (
    some (AEnd.ret (AV.copy (.bool false)), p35.2)) := (hJ _ _ _ (by kernel_rfl)).trans (by kernel_rfl)
noncomputable def rec_Check.A : FAnn := { nv := 5, mv := [(2, 0)], ld := [], lst := [], obj := [(1, 7)], q := [], raw := [] }
noncomputable def rec_Check.an : Ann := .mk none .nil (.mk none (.mk none .nil (.mk none .nil (.mk (some [(21, 0)]) .nil .nil))) .nil)
noncomputable abbrev rec_Check.c : Code := Tryz.f15.body.getD .skip
noncomputable def rec_Check.J (call : Cl) (n : Nat) : Jn (AEnd × H) := realJ Tryz.prog rec_Check.A call Tryz.f15 rec_Check.an rec_Check.c n
abbrev rec_Check.F (call : Cl) (n : Nat) (J : Jn (AEnd × H)) : Prop := JFix Tryz.prog rec_Check.A call Tryz.f15 rec_Check.an rec_Check.c n J
def rec_Check.f (J : Jn (AEnd × H)) (x0 : AV) (h : H) : Option (AEnd × H) := J [] [] ⟨[(0, x0)], [], [], h⟩
def rec_Check.j0 (J : Jn (AEnd × H)) (x21 : AV) (h : H) : Option (AEnd × H) := J [1, 0, 1, 1] [] ⟨[(21, x21)], [(21, 0)], [], h⟩
theorem rec_Check.f_eq {call : Cl} {n : Nat} {J : Jn (AEnd × H)} (hJ : rec_Check.F call n J) (x0 : AV) (h : H) : rec_Check.f J x0 h =
  (bx h (AV.copy x0)).bind fun p1 =>
  let h2 : H := p1.2 ++ [.arr [.list [] .cap, .list [] .cap, .nilFunc] false]
  (call n_rec_kinds [] h2).bind fun p3 => retOr p3.1 (fun _ => none) fun r4 =>
  (fAddr 0 p1.1).bind fun v5 =>
  (ldCell p3.2 v5).bind fun v6 =>
  whenB (eqO (ldCell h2 v5) v6) (
    (lkMap .int (.agg [.list [] .cap, .list [] .cap, .nilFunc]) p3.2 r4 v6 true).bind fun v7 =>
    (exTuple 0 v7).bind fun v8 =>
    (exTuple 1 v7).bind fun v9 =>
    (slotOp p1.2.length [.list [] .cap, .list [] .cap, .nilFunc] p3.2).bind fun v10 =>
    whenB (eqO (slotOp p1.2.length [.list [] .cap, .list [] .cap, .nilFunc] h2) v10) (
      (stN 3 p3.2 v10 (AV.copy v8)).bind fun p11 =>
      (unOp .not v9).bind fun v12 =>
      condV v12 (
        rec_Check.j0 J  (.bool true) p11.2) (
        (fAddr 2 v10).bind fun v13 =>
        (ldCell p11.2 v13).bind fun v14 =>
        (fAddr 1 p1.1).bind fun v15 =>
        (ldAgg 10 p11.2 v15).bind fun v16 =>
        (callVal call p11.2 v14 [AV.canon v16]).bind fun p17 => retOr p17.1 (fun r18p => some (AEnd.pan r18p, p17.2)) fun r18 =>
        (unOp .not r18).bind fun v19 =>
        rec_Check.j0 J  v19 p17.2))) := (hJ _ _ _ (by kernel_rfl)).trans (by kernel_rfl)
theorem rec_Check.j0_eq {call : Cl} {n : Nat} {J : Jn (AEnd × H)} (hJ : rec_Check.F call n J) (x21 : AV) (h : H) : rec_Check.j0 J  x21 h =
  condV x21 (
    some (AEnd.ret (.int .i64 270), h)) (
    some (AEnd.ret (.int .i64 0), h)) := (hJ _ _ _ (by kernel_rfl)).trans (by kernel_rfl)
noncomputable def rec_Right.A : FAnn := { nv := 5, mv := [(3, 5), (3, 8)], ld := [], lst := [], obj := [], q := [], raw := [] }
noncomputable def rec_Right.an : Ann := .mk none .nil (.mk none .nil (.mk (some [(1, 0), (3, 0)]) .nil (.mk (some [(1, 0), (3, 0), (4, 0)]) .nil .nil)))
noncomputable abbrev rec_Right.c : Code := Tryz.f16.body.getD .skip
noncomputable def rec_Right.J (call : Cl) (n : Nat) : Jn (AEnd × H) := realJ Tryz.prog rec_Right.A call Tryz.f16 rec_Right.an rec_Right.c n
abbrev rec_Right.F (call : Cl) (n : Nat) (J : Jn (AEnd × H)) : Prop := JFix Tryz.prog rec_Right.A call Tryz.f16 rec_Right.an rec_Right.c n J
def rec_Right.f (J : Jn (AEnd × H)) (x0 : AV) (h : H) : Option (AEnd × H) := J [] [] ⟨[(0, x0)], [], [], h⟩
def rec_Right.j0 (J : Jn (AEnd × H)) (x1 x3 : AV) (h : H) : Option (AEnd × H) := J [1, 1] [] ⟨[(1, x1), (3, x3)], [(1, 0), (3, 0)], [], h⟩
def rec_Right.j1 (J : Jn (AEnd × H)) (x1 x3 x4 : AV) (h : H) : Option (AEnd × H) := J [1, 1, 1] [] ⟨[(1, x1), (3, x3), (4, x4)], [(1, 0), (3, 0), (4, 0)], [], h⟩
theorem rec_Right.f_eq {call : Cl} {n : Nat} {J : Jn (AEnd × H)} (hJ : rec_Right.F call n J) (x0 : AV) (h : H) : rec_Right.f J x0 h =
  (bx h (AV.copy x0)).bind fun p1 =>
  (fAddr 7 p1.1).bind fun v2 =>
  (ldCell p1.2 v2).bind fun v3 =>
  (bin .geq v3 (.int .i64 1)).bind fun v4 =>
  condV v4 (
    (fAddr 7 p1.1).bind fun v5 =>
    (ldCell p1.2 v5).bind fun v6 =>
    (bin .leq v6 (.int .i64 3)).bind fun v7 =>
    rec_Right.j0 J  p1.1 v7 p1.2) (
    rec_Right.j0 J  p1.1 (.bool false) p1.2) := (hJ _ _ _ (by kernel_rfl)).trans (by kernel_rfl)
theorem rec_Right.j0_eq {call : Cl} {n : Nat} {J : Jn (AEnd × H)} (hJ : rec_Right.F call n J) (x1 x3 : AV) (h : H) : rec_Right.j0 J  x1 x3 h =
  (fAddr 8 x1).bind fun v8 =>
  (ldCell h v8).bind fun v9 =>
  (bin .geq v9 (.int .i64 1)).bind fun v10 =>
  condV v10 (
    (fAddr 8 x1).bind fun v11 =>
    (ldCell h v11).bind fun v12 =>
    (bin .leq v12 (.int .i64 1048576)).bind fun v13 =>
    rec_Right.j1 J  x1 x3 v13 h) (
    rec_Right.j1 J  x1 x3 (.bool false) h) := (hJ _ _ _ (by kernel_rfl)).trans (by kernel_rfl)
theorem rec_Right.j1_eq {call : Cl} {n : Nat} {J : Jn (AEnd × H)} (hJ : rec_Right.F call n J) (x1 x3 x4 : AV) (h : H) : rec_Right.j1 J  x1 x3 x4 h =
  (fAddr 1 x1).bind fun v14 =>
  (ldAgg 6 h v14).bind fun v15 =>
  (call n_alarm_Check [AV.canon v15] h).bind fun p16 => retOr p16.1 (fun r17p => some (AEnd.pan r17p, p16.2)) fun r17 =>
  (bin .eql r17 (.int .i64 0)).bind fun v18 =>
  condV v18 (
    condV x3 (
      condV x4 (
        (fAddr 9 x1).bind fun v19 =>
        (ldCell p16.2 v19).bind fun v20 =>
        (call n_rec_note [AV.canon v20] p16.2).bind fun p21 => retOr p21.1 (fun r22p => some (AEnd.pan r22p, p21.2)) fun r22 =>
        condV r22 (
          (fAddr 7 x1).bind fun v23 =>
          (ldCell p21.2 v23).bind fun v24 =>
          (bin .eql v24 (.int .i64 3)).bind fun v25 =>
          condV v25 (
            some (AEnd.ret (AV.copy (.bool true)), p21.2)) (
            (fAddr 9 x1).bind fun v26 =>
            (ldCell p21.2 v26).bind fun v27 =>
            (bin .eql v27 (.str [])).bind fun v28 =>
            some (AEnd.ret (AV.copy v28), p21.2))) (
          some (AEnd.ret (AV.copy (.bool false)), p21.2))) (
        some (AEnd.ret (AV.copy (.bool false)), p16.2))) (
      some (AEnd.ret (AV.copy (.bool false)), p16.2))) (
    some (AEnd.ret (AV.copy (.bool false)), p16.2)) := (hJ _ _ _ (by kernel_rfl)).trans (by kernel_rfl)
noncomputable def ref27_Right.A : FAnn := { nv := 2, mv := [], ld := [], lst := [], obj := [], q := [], raw := [] }
noncomputable def ref27_Right.an : Ann := .mk none .nil (.mk none (.mk none .nil (.mk (some [(1, 0), (32, 0)]) .nil .nil)) (.mk (some [(1, 0)]) .nil .nil))
noncomputable abbrev ref27_Right.c : Code := Tryz.f17.body.getD .skip
noncomputable def ref27_Right.J (call : Cl) (n : Nat) : Jn (AEnd × H) := realJ Tryz.prog ref27_Right.A call Tryz.f17 ref27_Right.an ref27_Right.c n
abbrev ref27_Right.F (call : Cl) (n : Nat) (J : Jn (AEnd × H)) : Prop := JFix Tryz.prog ref27_Right.A call Tryz.f17 ref27_Right.an ref27_Right.c n J
def ref27_Right.f (J : Jn (AEnd × H)) (x0 : AV) (h : H) : Option (AEnd × H) := J [] [] ⟨[(0, x0)], [], [], h⟩
def ref27_Right.j1 (J : Jn (AEnd × H)) (x1 x32 : AV) (h : H) : Option (AEnd × H) := J [1, 0, 1] [] ⟨[(1, x1), (32, x32)], [(1, 0), (32, 0)], [], h⟩
def ref27_Right.j0 (J : Jn (AEnd × H)) (x1 : AV) (h : H) : Option (AEnd × H) := J [1, 1] [] ⟨[(1, x1)], [(1, 0)], [], h⟩
theorem ref27_Right.f_eq {call : Cl} {n : Nat} {J : Jn (AEnd × H)} (hJ : ref27_Right.F call n J) (x0 : AV) (h : H) : ref27_Right.f J x0 h =
  (bx h (AV.copy x0)).bind fun p1 =>
  (fAddr 1 p1.1).bind fun v2 =>
  (ldAgg 6 p1.2 v2).bind fun v3 =>
  (call n_warrantorref17_Check [AV.canon v3] p1.2).bind fun p4 => retOr p4.1 (fun r5p => some (AEnd.pan r5p, p4.2)) fun r5 =>
  (unOp .not r5).bind fun v6 =>
  condV v6 (
    ref27_Right.j1 J  p1.1 (.bool true) p4.2) (
    (fAddr 7 p1.1).bind fun v7 =>
    (ldCell p4.2 v7).bind fun v8 =>
    (bin .lss v8 (.int .i64 1)).bind fun v9 =>
    condV v9 (
      ref27_Right.j1 J  p1.1 (.bool true) p4.2) (
      (fAddr 7 p1.1).bind fun v10 =>
      (ldCell p4.2 v10).bind fun v11 =>
      (bin .gtr v11 (.int .i64 3)).bind fun v12 =>
      condV v12 (
        ref27_Right.j1 J  p1.1 (.bool true) p4.2) (
        (fAddr 8 p1.1).bind fun v13 =>
        (ldCell p4.2 v13).bind fun v14 =>
        (bin .lss v14 (.int .i64 1)).bind fun v15 =>
        condV v15 (
          ref27_Right.j1 J  p1.1 (.bool true) p4.2) (
          (fAddr 8 p1.1).bind fun v16 =>
          (ldCell p4.2 v16).bind fun v17 =>
          (bin .gtr v17 (.int .i64 1048576)).bind fun v18 =>
          condV v18 (
            ref27_Right.j1 J  p1.1 (.bool true) p4.2) (
            (fAddr 9 p1.1).bind fun v19 =>
            (ldCell p4.2 v19).bind fun v20 =>
            (call n_warrantorref21_Note [AV.canon v20] p4.2).bind fun p21 => retOr p21.1 (fun r22p => some (AEnd.pan r22p, p21.2)) fun r22 =>
            (unOp .not r22).bind fun v23 =>
            ref27_Right.j1 J  p1.1 v23 p21.2))))) := (hJ _ _ _ (by kernel_rfl)).trans (by kernel_rfl)
theorem ref27_Right.j1_eq {call : Cl} {n : Nat} {J : Jn (AEnd × H)} (hJ : ref27_Right.F call n J) (x1 x32 : AV) (h : H) : ref27_Right.j1 J  x1 x32 h =
  condV x32 (
    some (AEnd.ret (.bool false), h)) (
    ref27_Right.j0 J  x1 h) := (hJ _ _ _ (by kernel_rfl)).trans (by kernel_rfl)
theorem ref27_Right.j0_eq {call : Cl} {n : Nat} {J : Jn (AEnd × H)} (hJ : ref27_Right.F call n J) (x1 : AV) (h : H) : ref27_Right.j0 J  x1 h =
  (fAddr 7 x1).bind fun v24 =>
  (ldCell h v24).bind fun v25 =>
  (bin .eql v25 (.int .i64 3)).bind fun v26 =>
  condV v26 (
    some (AEnd.ret (AV.copy (.bool true)), h)) (
    (fAddr 9 x1).bind fun v27 =>
    (ldCell h v27).bind fun v28 =>
    (bin .eql v28 (.str [])).bind fun v29 =>
    some (AEnd.ret (AV.copy v29), h)) := (hJ _ _ _ (by kernel_rfl)).trans (by kernel_rfl)
noncomputable def ref27_Check.A : FAnn := { nv := 2, mv := [], ld := [], lst := [], obj := [], q := [51], raw := [] }
noncomputable def ref27_Check.an : Ann := .mk none .nil (.mk none .nil (.mk none (.mk none .nil (.mk none (.mk none .nil (.mk none .nil (.mk none .nil (.mk none .nil (.mk none .nil (.mk (some [(1, 0), (12, 0), (25, 0)]) .nil .nil)))))) .nil)) .nil))
noncomputable abbrev ref27_Check.c : Code := Tryz.f18.body.getD .skip
noncomputable def ref27_Check.J (call : Cl) (n : Nat) : Jn (AEnd × H) := realJ Tryz.prog ref27_Check.A call Tryz.f18 ref27_Check.an ref27_Check.c n
abbrev ref27_Check.F (call : Cl) (n : Nat) (J : Jn (AEnd × H)) : Prop := JFix Tryz.prog ref27_Check.A call Tryz.f18 ref27_Check.an ref27_Check.c n J
def ref27_Check.f (J : Jn (AEnd × H)) (x0 : AV) (h : H) : Option (AEnd × H) := J [] [] ⟨[(0, x0)], [], [], h⟩
def ref27_Check.j0 (J : Jn (AEnd × H)) (x1 x12 x25 : AV) (h : H) : Option (AEnd × H) := J [1, 1, 0, 1, 0, 1, 1, 1, 1, 1] [] ⟨[(1, x1), (12, x12), (25, x25)], [(1, 0), (12, 0), (25, 0)], [], h⟩
theorem ref27_Check.f_eq {call : Cl} {n : Nat} {J : Jn (AEnd × H)} (hJ : ref27_Check.F call n J) (x0 : AV) (h : H) : ref27_Check.f J x0 h =
  (bx h (AV.copy x0)).bind fun p1 =>
  (fAddr 1 p1.1).bind fun v2 =>
  (ldAgg 10 p1.2 v2).bind fun v3 =>
  (fAddr 0 p1.1).bind fun v4 =>
  (ldCell p1.2 v4).bind fun v5 =>
  (fAddr 1 p1.1).bind fun v6 =>
  (ldAgg 10 p1.2 v6).bind fun v7 =>
  (call n_warrantorref27_Uses [AV.canon v5, AV.canon v7] p1.2).bind fun p8 => retOr p8.1 (fun _ => none) fun r9 =>
  (eqv true (aeq Tryz.prog 20 t_api_Entry v3 r9)).bind fun v10 =>
  condV v10 (
    some (AEnd.ret (.bool false), p8.2)) (
    (fAddr 0 p1.1).bind fun v11 =>
    (ldCell p8.2 v11).bind fun v12 =>
    (bin .eql v12 (.int .i64 1)).bind fun v13 =>
    condV v13 (
      (fAddr 1 p1.1).bind fun v14 =>
      (fAddr 1 v14).bind fun v15 =>
      (ldAgg 6 p8.2 v15).bind fun v16 =>
      (call n_warrantorref17_Check [AV.canon v16] p8.2).bind fun p17 => retOr p17.1 (fun r18p => some (AEnd.pan r18p, p17.2)) fun r18 =>
      some (AEnd.ret r18, p17.2)) (
      (bin .eql v12 (.int .i64 2)).bind fun v19 =>
      condV v19 (
        (fAddr 1 p1.1).bind fun v20 =>
        (fAddr 9 v20).bind fun v21 =>
        (ldCell p8.2 v21).bind fun v22 =>
        (call n_warrantorref21_Note [AV.canon v22] p8.2).bind fun p23 => retOr p23.1 (fun r24p => some (AEnd.pan r24p, p23.2)) fun r24 =>
        some (AEnd.ret r24, p23.2)) (
        (bin .eql v12 (.int .i64 3)).bind fun v25 =>
        condV v25 (
          ref27_Check.j0 J  p1.1 v12 v25 p8.2) (
          (bin .eql v12 (.int .i64 4)).bind fun v26 =>
          ref27_Check.j0 J  p1.1 v12 v26 p8.2)))) := (hJ _ _ _ (by kernel_rfl)).trans (by kernel_rfl)
theorem ref27_Check.j0_eq {call : Cl} {n : Nat} {J : Jn (AEnd × H)} (hJ : ref27_Check.F call n J) (x1 x12 x25 : AV) (h : H) : ref27_Check.j0 J  x1 x12 x25 h =
  condV x25 (
    some (AEnd.ret (.bool true), h)) (
    (bin .eql x12 (.int .i64 5)).bind fun v27 =>
    condV v27 (
      (fAddr 1 x1).bind fun v28 =>
      (ldAgg 10 h v28).bind fun v29 =>
      (call n_warrantorref27_Right [AV.canon v29] h).bind fun p30 => retOr p30.1 (fun r31p => some (AEnd.pan r31p, p30.2)) fun r31 =>
      some (AEnd.ret r31, p30.2)) (
      some (AEnd.ret (.bool false), h))) := (hJ _ _ _ (by kernel_rfl)).trans (by kernel_rfl)
noncomputable def rec_Same.A : FAnn := { nv := 4, mv := [(1, 0), (1, 1)], ld := [], lst := [], obj := [], q := [], raw := [] }
noncomputable def rec_Same.an : Ann := .nil
noncomputable abbrev rec_Same.c : Code := Tryz.f19.body.getD .skip
noncomputable def rec_Same.J (call : Cl) (n : Nat) : Jn (AEnd × H) := realJ Tryz.prog rec_Same.A call Tryz.f19 rec_Same.an rec_Same.c n
abbrev rec_Same.F (call : Cl) (n : Nat) (J : Jn (AEnd × H)) : Prop := JFix Tryz.prog rec_Same.A call Tryz.f19 rec_Same.an rec_Same.c n J
def rec_Same.f (J : Jn (AEnd × H)) (x0 x1 : AV) (h : H) : Option (AEnd × H) := J [] [] ⟨[(0, x0), (1, x1)], [], [], h⟩
theorem rec_Same.f_eq {call : Cl} {n : Nat} {J : Jn (AEnd × H)} (hJ : rec_Same.F call n J) (x0 x1 : AV) (h : H) : rec_Same.f J x0 x1 h =
  (call n_slices_Equal_api_Change_api_Change [AV.canon x0, AV.canon x1] h).bind fun p1 => retOr p1.1 (fun r2p => some (AEnd.pan r2p, p1.2)) fun r2 =>
  some (AEnd.ret r2, p1.2) := (hJ _ _ _ (by kernel_rfl)).trans (by kernel_rfl)
noncomputable def ref27_Same.A : FAnn := { nv := 6, mv := [(5, 0)], ld := [], lst := [], obj := [], q := [], raw := [] }
noncomputable def ref27_Same.an : Ann := .mk none .nil (.mk none .nil (.mk none (.mk none .nil (.mk none (.mk none (.mk (some [(0, 0), (1, 0), (5, 0)]) .nil .nil) .nil) .nil)) .nil))
noncomputable abbrev ref27_Same.c : Code := Tryz.f20.body.getD .skip
noncomputable def ref27_Same.J (call : Cl) (n : Nat) : Jn (AEnd × H) := realJ Tryz.prog ref27_Same.A call Tryz.f20 ref27_Same.an ref27_Same.c n
abbrev ref27_Same.F (call : Cl) (n : Nat) (J : Jn (AEnd × H)) : Prop := JFix Tryz.prog ref27_Same.A call Tryz.f20 ref27_Same.an ref27_Same.c n J
def ref27_Same.f (J : Jn (AEnd × H)) (x0 x1 : AV) (h : H) : Option (AEnd × H) := J [] [] ⟨[(0, x0), (1, x1)], [], [], h⟩
def ref27_Same.l0 (J : Jn (AEnd × H)) (m0 : Nat) (x0 x1 x5 : AV) (h : H) : Option (AEnd × H) := J [1, 1, 0, 1, 0] [m0] ⟨[(0, x0), (1, x1), (5, x5)], [(0, 0), (1, 0), (5, 0)], [], h⟩
theorem ref27_Same.f_eq {call : Cl} {n : Nat} {J : Jn (AEnd × H)} (hJ : ref27_Same.F call n J) (x0 x1 : AV) (h : H) : ref27_Same.f J x0 x1 h =
  (lnSl x0).bind fun v1 =>
  (lnSl x1).bind fun v2 =>
  (bin .neq v1 v2).bind fun v3 =>
  condV v3 (
    some (AEnd.ret (.bool false), h)) (
    ref27_Same.l0 J n x0 x1 (.int .i64 0) h) := (hJ _ _ _ (by kernel_rfl)).trans (by kernel_rfl)
theorem ref27_Same.l0_eq {call : Cl} {n : Nat} {J : Jn (AEnd × H)} (hJ : ref27_Same.F call n J) (m0 : Nat) (x0 x1 x5 : AV) (h : H) : ref27_Same.l0 J (m0 + 1) x0 x1 x5 h =
  (lnSl x0).bind fun v4 =>
  (bin .lss x5 v4).bind fun v5 =>
  condV v5 (
    (ixSlice 11 x0 x5).bind fun v6 =>
    (ldAgg 11 h v6).bind fun v7 =>
    (ixSlice 11 x1 x5).bind fun v8 =>
    (ldAgg 11 h v8).bind fun v9 =>
    (eqv true (aeq Tryz.prog 20 t_api_Change v7 v9)).bind fun v10 =>
    condV v10 (
      some (AEnd.ret (.bool false), h)) (
      (bin .add x5 (.int .i64 1)).bind fun v11 =>
      ref27_Same.l0 J m0 x0 x1 v11 h)) (
    some (AEnd.ret (.bool true), h)) := (hJ _ _ _ (by kernel_rfl)).trans (by kernel_rfl)
noncomputable def rec_Put.A : FAnn := { nv := 5, mv := [(4, 1), (6, 0)], ld := [], lst := [], obj := [], q := [], raw := [] }
noncomputable def rec_Put.an : Ann := .nil
noncomputable abbrev rec_Put.c : Code := Tryz.f21.body.getD .skip
noncomputable def rec_Put.J (call : Cl) (n : Nat) : Jn (AEnd × H) := realJ Tryz.prog rec_Put.A call Tryz.f21 rec_Put.an rec_Put.c n
abbrev rec_Put.F (call : Cl) (n : Nat) (J : Jn (AEnd × H)) : Prop := JFix Tryz.prog rec_Put.A call Tryz.f21 rec_Put.an rec_Put.c n J
def rec_Put.f (J : Jn (AEnd × H)) (x0 : AV) (h : H) : Option (AEnd × H) := J [] [] ⟨[(0, x0)], [], [], h⟩
theorem rec_Put.f_eq {call : Cl} {n : Nat} {J : Jn (AEnd × H)} (hJ : rec_Put.F call n J) (x0 : AV) (h : H) : rec_Put.f J x0 h =
  (call n_rec_batch [AV.canon x0] h).bind fun p1 => retOr p1.1 (fun r2p => some (AEnd.pan r2p, p1.2)) fun r2 =>
  (unOp .not r2).bind fun v3 =>
  condV v3 (
    some (AEnd.ret (.tuple [(.list [] .cap), (.int .i64 270)]), p1.2)) (
    (call n_cur_New [] p1.2).bind fun p4 => retOr p4.1 (fun r5p => some (AEnd.pan r5p, p4.2)) fun r5 =>
    (call n_rec_body [AV.canon x0] p4.2).bind fun p6 => retOr p6.1 (fun r7p => some (AEnd.pan r7p, p6.2)) fun r7 =>
    (bytesStr p6.2 r7).bind fun v8 =>
    (call n_cur_Pen_Text [AV.canon r5, AV.canon v8] p6.2).bind fun p9 => retOr p9.1 (fun r10p => some (AEnd.pan r10p, p9.2)) fun r10 =>
    (call n_cur_Pen_Bytes [AV.canon r5] p9.2).bind fun p11 => retOr p11.1 (fun r12p => some (AEnd.pan r12p, p11.2)) fun r12 =>
    (call n_crc_Sum [AV.canon r12] p11.2).bind fun p13 => retOr p13.1 (fun r14p => some (AEnd.pan r14p, p13.2)) fun r14 =>
    (call n_cur_Pen_Word [AV.canon r5, AV.canon r14] p13.2).bind fun p15 => retOr p15.1 (fun r16p => some (AEnd.pan r16p, p15.2)) fun r16 =>
    (call n_cur_Pen_Bytes [AV.canon r5] p15.2).bind fun p17 => retOr p17.1 (fun r18p => some (AEnd.pan r18p, p17.2)) fun r18 =>
    some (AEnd.ret (.tuple [r18, (.int .i64 0)]), p17.2)) := (hJ _ _ _ (by kernel_rfl)).trans (by kernel_rfl)
noncomputable def ref27_Batch.A : FAnn := { nv := 4, mv := [(3, 0), (6, 4)], ld := [], lst := [], obj := [], q := [], raw := [] }
noncomputable def ref27_Batch.an : Ann := .mk none .nil (.mk none (.mk none .nil (.mk none (.mk none (.mk (some [(0, 0), (3, 0)]) .nil .nil) .nil) .nil)) .nil)
noncomputable abbrev ref27_Batch.c : Code := Tryz.f22.body.getD .skip
noncomputable def ref27_Batch.J (call : Cl) (n : Nat) : Jn (AEnd × H) := realJ Tryz.prog ref27_Batch.A call Tryz.f22 ref27_Batch.an ref27_Batch.c n
abbrev ref27_Batch.F (call : Cl) (n : Nat) (J : Jn (AEnd × H)) : Prop := JFix Tryz.prog ref27_Batch.A call Tryz.f22 ref27_Batch.an ref27_Batch.c n J
def ref27_Batch.f (J : Jn (AEnd × H)) (x0 : AV) (h : H) : Option (AEnd × H) := J [] [] ⟨[(0, x0)], [], [], h⟩
def ref27_Batch.l0 (J : Jn (AEnd × H)) (m0 : Nat) (x0 x3 : AV) (h : H) : Option (AEnd × H) := J [1, 0, 1, 0] [m0] ⟨[(0, x0), (3, x3)], [(0, 0), (3, 0)], [], h⟩
theorem ref27_Batch.f_eq {call : Cl} {n : Nat} {J : Jn (AEnd × H)} (hJ : ref27_Batch.F call n J) (x0 : AV) (h : H) : ref27_Batch.f J x0 h =
  ref27_Batch.l0 J n x0 (.int .i64 0) h := (hJ _ _ _ (by kernel_rfl)).trans (by kernel_rfl)
theorem ref27_Batch.l0_eq {call : Cl} {n : Nat} {J : Jn (AEnd × H)} (hJ : ref27_Batch.F call n J) (m0 : Nat) (x0 x3 : AV) (h : H) : ref27_Batch.l0 J (m0 + 1) x0 x3 h =
  (lnSl x0).bind fun v1 =>
  (bin .lss x3 v1).bind fun v2 =>
  condV v2 (
    (ixSlice 11 x0 x3).bind fun v3 =>
    (ldAgg 11 h v3).bind fun v4 =>
    (call n_warrantorref27_Check [AV.canon v4] h).bind fun p5 => retOr p5.1 (fun r6p => some (AEnd.pan r6p, p5.2)) fun r6 =>
    (unOp .not r6).bind fun v7 =>
    condV v7 (
      some (AEnd.ret (.bool false), p5.2)) (
      (bin .add x3 (.int .i64 1)).bind fun v8 =>
      ref27_Batch.l0 J m0 x0 v8 p5.2)) (
    (lnSl x0).bind fun v9 =>
    (bin .geq v9 (.int .i64 1)).bind fun v10 =>
    condV v10 (
      (lnSl x0).bind fun v11 =>
      (bin .leq v11 (.int .i64 512)).bind fun v12 =>
      some (AEnd.ret (AV.copy v12), h)) (
      some (AEnd.ret (AV.copy (.bool false)), h))) := (hJ _ _ _ (by kernel_rfl)).trans (by kernel_rfl)
noncomputable def rec_Get.A : FAnn := { nv := 11, mv := [(6, 0), (7, 0), (7, 1), (7, 3), (9, 0), (10, 0), (12, 0), (12, 1)], ld := [], lst := [], obj := [], q := [], raw := [] }
noncomputable def rec_Get.an : Ann := .nil
noncomputable abbrev rec_Get.c : Code := Tryz.f23.body.getD .skip
noncomputable def rec_Get.J (call : Cl) (n : Nat) : Jn (AEnd × H) := realJ Tryz.prog rec_Get.A call Tryz.f23 rec_Get.an rec_Get.c n
abbrev rec_Get.F (call : Cl) (n : Nat) (J : Jn (AEnd × H)) : Prop := JFix Tryz.prog rec_Get.A call Tryz.f23 rec_Get.an rec_Get.c n J
def rec_Get.f (J : Jn (AEnd × H)) (x0 : AV) (h : H) : Option (AEnd × H) := J [] [] ⟨[(0, x0)], [], [], h⟩
theorem rec_Get.f_eq {call : Cl} {n : Nat} {J : Jn (AEnd × H)} (hJ : rec_Get.F call n J) (x0 : AV) (h : H) : rec_Get.f J x0 h =
  (call n_cur_From [AV.canon x0] h).bind fun p1 => retOr p1.1 (fun r2p => some (AEnd.pan r2p, p1.2)) fun r2 =>
  (call n_cur_Reader_Text [AV.canon r2, AV.canon (.int .i64 1048576)] p1.2).bind fun p3 => retOr p3.1 (fun r4p => some (AEnd.pan r4p, p3.2)) fun r4 =>
  (call n_cur_Reader_At [AV.canon r2] p3.2).bind fun p5 => retOr p5.1 (fun r6p => some (AEnd.pan r6p, p5.2)) fun r6 =>
  (call n_cur_Reader_Word [AV.canon r2] p5.2).bind fun p7 => retOr p7.1 (fun r8p => some (AEnd.pan r8p, p7.2)) fun r8 =>
  (call n_cur_Reader_Err [AV.canon r2] p7.2).bind fun p9 => retOr p9.1 (fun r10p => some (AEnd.pan r10p, p9.2)) fun r10 =>
  (bin .neq r10 (.int .i64 0)).bind fun v11 =>
  condV v11 (
    (call n_cur_Reader_Err [AV.canon r2] p9.2).bind fun p12 => retOr p12.1 (fun r13p => some (AEnd.pan r13p, p12.2)) fun r13 =>
    some (AEnd.ret (.tuple [(.list [] .cap), (.int .i64 0), r13]), p12.2)) (
    (slSlice 1 x0 none (some r6) none).bind fun v14 =>
    (call n_crc_Whole [AV.canon v14, AV.canon r8] p9.2).bind fun p15 => retOr p15.1 (fun r16p => some (AEnd.pan r16p, p15.2)) fun r16 =>
    (unOp .not r16).bind fun v17 =>
    condV v17 (
      some (AEnd.ret (.tuple [(.list [] .cap), (.int .i64 0), (.int .i64 42)]), p15.2)) (
      (strBytes r4).bind fun v18 =>
      (call n_rec_read [AV.canon v18] p15.2).bind fun p19 => retOr p19.1 (fun r20p => some (AEnd.pan r20p, p19.2)) fun r20 =>
      (exTuple 0 r20).bind fun v21 =>
      (exTuple 1 r20).bind fun v22 =>
      (unOp .not v22).bind fun v23 =>
      condV v23 (
        some (AEnd.ret (.tuple [(.list [] .cap), (.int .i64 0), (.int .i64 270)]), p19.2)) (
        (call n_cur_Reader_At [AV.canon r2] p19.2).bind fun p24 => retOr p24.1 (fun r25p => some (AEnd.pan r25p, p24.2)) fun r25 =>
        some (AEnd.ret (.tuple [v21, r25, (.int .i64 0)]), p24.2)))) := (hJ _ _ _ (by kernel_rfl)).trans (by kernel_rfl)
noncomputable def ref27_Put.A : FAnn := { nv := 2, mv := [(1, 0)], ld := [], lst := [], obj := [], q := [], raw := [] }
noncomputable def ref27_Put.an : Ann := .nil
noncomputable abbrev ref27_Put.c : Code := Tryz.f24.body.getD .skip
noncomputable def ref27_Put.J (call : Cl) (n : Nat) : Jn (AEnd × H) := realJ Tryz.prog ref27_Put.A call Tryz.f24 ref27_Put.an ref27_Put.c n
abbrev ref27_Put.F (call : Cl) (n : Nat) (J : Jn (AEnd × H)) : Prop := JFix Tryz.prog ref27_Put.A call Tryz.f24 ref27_Put.an ref27_Put.c n J
def ref27_Put.f (J : Jn (AEnd × H)) (x0 : AV) (h : H) : Option (AEnd × H) := J [] [] ⟨[(0, x0)], [], [], h⟩
theorem ref27_Put.f_eq {call : Cl} {n : Nat} {J : Jn (AEnd × H)} (hJ : ref27_Put.F call n J) (x0 : AV) (h : H) : ref27_Put.f J x0 h =
  (call n_warrantorref27_Body [AV.canon x0] h).bind fun p1 => retOr p1.1 (fun r2p => some (AEnd.pan r2p, p1.2)) fun r2 =>
  (call n_warrantorref27_Frame [AV.canon r2] p1.2).bind fun p3 => retOr p3.1 (fun r4p => some (AEnd.pan r4p, p3.2)) fun r4 =>
  some (AEnd.ret r4, p3.2) := (hJ _ _ _ (by kernel_rfl)).trans (by kernel_rfl)
noncomputable def ref27_Get.A : FAnn := { nv := 10, mv := [(1, 0), (3, 0), (4, 0), (5, 0), (7, 0), (7, 1)], ld := [], lst := [], obj := [], q := [], raw := [] }
noncomputable def ref27_Get.an : Ann := .nil
noncomputable abbrev ref27_Get.c : Code := Tryz.f25.body.getD .skip
noncomputable def ref27_Get.J (call : Cl) (n : Nat) : Jn (AEnd × H) := realJ Tryz.prog ref27_Get.A call Tryz.f25 ref27_Get.an ref27_Get.c n
abbrev ref27_Get.F (call : Cl) (n : Nat) (J : Jn (AEnd × H)) : Prop := JFix Tryz.prog ref27_Get.A call Tryz.f25 ref27_Get.an ref27_Get.c n J
def ref27_Get.f (J : Jn (AEnd × H)) (x0 : AV) (h : H) : Option (AEnd × H) := J [] [] ⟨[(0, x0)], [], [], h⟩
theorem ref27_Get.f_eq {call : Cl} {n : Nat} {J : Jn (AEnd × H)} (hJ : ref27_Get.F call n J) (x0 : AV) (h : H) : ref27_Get.f J x0 h =
  (call n_warrantorref27_Open [AV.canon x0] h).bind fun p1 => retOr p1.1 (fun r2p => some (AEnd.pan r2p, p1.2)) fun r2 =>
  (exTuple 0 r2).bind fun v3 =>
  (exTuple 1 r2).bind fun v4 =>
  (exTuple 2 r2).bind fun v5 =>
  (bin .neq v5 (.int .i64 0)).bind fun v6 =>
  condV v6 (
    some (AEnd.ret (.tuple [(.list [] .cap), (.int .i64 0), v5]), p1.2)) (
    (call n_warrantorref27_Changes [AV.canon v3] p1.2).bind fun p7 => retOr p7.1 (fun r8p => some (AEnd.pan r8p, p7.2)) fun r8 =>
    (exTuple 0 r8).bind fun v9 =>
    (exTuple 1 r8).bind fun v10 =>
    (unOp .not v10).bind fun v11 =>
    condV v11 (
      some (AEnd.ret (.tuple [(.list [] .cap), (.int .i64 0), (.int .i64 270)]), p7.2)) (
      some (AEnd.ret (.tuple [v9, v4, (.int .i64 0)]), p7.2))) := (hJ _ _ _ (by kernel_rfl)).trans (by kernel_rfl)
noncomputable def ref27_Frame.A : FAnn := { nv := 4, mv := [(1, 0), (2, 0)], ld := [], lst := [], obj := [], q := [], raw := [] }
noncomputable def ref27_Frame.an : Ann := .nil
noncomputable abbrev ref27_Frame.c : Code := Tryz.f26.body.getD .skip
noncomputable def ref27_Frame.J (call : Cl) (n : Nat) : Jn (AEnd × H) := realJ Tryz.prog ref27_Frame.A call Tryz.f26 ref27_Frame.an ref27_Frame.c n
abbrev ref27_Frame.F (call : Cl) (n : Nat) (J : Jn (AEnd × H)) : Prop := JFix Tryz.prog ref27_Frame.A call Tryz.f26 ref27_Frame.an ref27_Frame.c n J
def ref27_Frame.f (J : Jn (AEnd × H)) (x0 : AV) (h : H) : Option (AEnd × H) := J [] [] ⟨[(0, x0)], [], [], h⟩
theorem ref27_Frame.f_eq {call : Cl} {n : Nat} {J : Jn (AEnd × H)} (hJ : ref27_Frame.F call n J) (x0 : AV) (h : H) : ref27_Frame.f J x0 h =
  (bytesStr h x0).bind fun v1 =>
  (call n_warrantorref02_Text [AV.canon v1] h).bind fun p2 => retOr p2.1 (fun r3p => some (AEnd.pan r3p, p2.2)) fun r3 =>
  (call n_warrantorref03_Sum [AV.canon r3] p2.2).bind fun p4 => retOr p4.1 (fun r5p => some (AEnd.pan r5p, p4.2)) fun r5 =>
  (call n_warrantorref02_Word [AV.canon r5] p4.2).bind fun p6 => retOr p6.1 (fun r7p => some (AEnd.pan r7p, p6.2)) fun r7 =>
  (apSlice 1 1 true true p6.2 r3 r7).bind fun v8 =>
  some (AEnd.ret v8, p6.2) := (hJ _ _ _ (by kernel_rfl)).trans (by kernel_rfl)
noncomputable def ref27_Changes.A : FAnn := { nv := 7, mv := [(5, 0), (6, 0), (8, 0), (8, 14), (10, 0)], ld := [], lst := [], obj := [], q := [22, 28], raw := [] }
noncomputable def ref27_Changes.an : Ann := .mk none .nil (.mk none .nil (.mk none .nil (.mk none (.mk none .nil (.mk none (.mk none (.mk (some [(0, 0), (4, 0), (5, 255), (6, 0)]) .nil (.mk (some [(0, 0), (4, 0), (5, 255), (6, 0)]) .nil .nil)) .nil) .nil)) (.mk none .nil (.mk none (.mk none .nil (.mk (some [(5, 255), (47, 0)]) .nil .nil)) .nil)))))
noncomputable abbrev ref27_Changes.c : Code := Tryz.f27.body.getD .skip
noncomputable def ref27_Changes.J (call : Cl) (n : Nat) : Jn (AEnd × H) := realJ Tryz.prog ref27_Changes.A call Tryz.f27 ref27_Changes.an ref27_Changes.c n
abbrev ref27_Changes.F (call : Cl) (n : Nat) (J : Jn (AEnd × H)) : Prop := JFix Tryz.prog ref27_Changes.A call Tryz.f27 ref27_Changes.an ref27_Changes.c n J
def ref27_Changes.f (J : Jn (AEnd × H)) (x0 : AV) (h : H) : Option (AEnd × H) := J [] [] ⟨[(0, x0)], [], [], h⟩
def ref27_Changes.l0 (J : Jn (AEnd × H)) (m0 : Nat) (x0 x4 x5 x6 : AV) (h : H) : Option (AEnd × H) := J [1, 1, 1, 0, 1, 0] [m0] ⟨[(0, x0), (4, x4), (5, x5), (6, x6)], [(0, 0), (4, 0), (5, 255), (6, 0)], [], h⟩
def ref27_Changes.j0 (J : Jn (AEnd × H)) (m0 : Nat) (x0 x4 x5 x6 : AV) (h : H) : Option (AEnd × H) := J [1, 1, 1, 0, 1, 0, 0, 1] [m0] ⟨[(0, x0), (4, x4), (5, x5), (6, x6)], [(0, 0), (4, 0), (5, 255), (6, 0)], [], h⟩
def ref27_Changes.j1 (J : Jn (AEnd × H)) (x5 x47 : AV) (h : H) : Option (AEnd × H) := J [1, 1, 1, 1, 1, 0, 1] [] ⟨[(5, x5), (47, x47)], [(5, 255), (47, 0)], [], h⟩
theorem ref27_Changes.f_eq {call : Cl} {n : Nat} {J : Jn (AEnd × H)} (hJ : ref27_Changes.F call n J) (x0 : AV) (h : H) : ref27_Changes.f J x0 h =
  (mkAgg [.list [] .cap, .int .i64 0, .int .i64 0] [(0, 1, AV.copy x0)]).bind fun v1 =>
  (bx h v1).bind fun p2 =>
  (call n_warrantorref02_Reader_Count [AV.canon p2.1, AV.canon (.int .i64 512)] p2.2).bind fun p3 => retOr p3.1 (fun r4p => some (AEnd.pan r4p, p3.2)) fun r4 =>
  ref27_Changes.l0 J n x0 p2.1 (.list [] .cap) r4 p3.2 := (hJ _ _ _ (by kernel_rfl)).trans (by kernel_rfl)
theorem ref27_Changes.l0_eq {call : Cl} {n : Nat} {J : Jn (AEnd × H)} (hJ : ref27_Changes.F call n J) (m0 : Nat) (x0 x4 x5 x6 : AV) (h : H) : ref27_Changes.l0 J (m0 + 1) x0 x4 x5 x6 h =
  (bin .gtr x6 (.int .i64 0)).bind fun v5 =>
  condV v5 (
    (nilOk x4).bind fun v6 =>
    (fAddr 2 v6).bind fun v7 =>
    (ldCell h v7).bind fun v8 =>
    (bin .eql v8 (.int .i64 0)).bind fun v9 =>
    condV v9 (
      ref27_Changes.j0 J m0 x0 x4 x5 x6 h) (
      (call n_warrantorref02_Reader_End [AV.canon x4] h).bind fun p10 => retOr p10.1 (fun r11p => some (AEnd.pan r11p, p10.2)) fun r11 =>
      (nilOk x4).bind fun v12 =>
      (fAddr 2 v12).bind fun v13 =>
      (ldCell p10.2 v13).bind fun v14 =>
      (bin .neq v14 (.int .i64 0)).bind fun v15 =>
      condV v15 (
        ref27_Changes.j1 J  x5 (.bool true) p10.2) (
        (call n_warrantorref27_Batch [AV.canon x5] p10.2).bind fun p16 => retOr p16.1 (fun _ => none) fun r17 =>
        (unOp .not r17).bind fun v18 =>
        condV v18 (
          ref27_Changes.j1 J  x5 (.bool true) p16.2) (
          (call n_warrantorref27_Body [AV.canon x5] p16.2).bind fun p19 => retOr p19.1 (fun _ => none) fun r20 =>
          (bytesStr p19.2 r20).bind fun v21 =>
          (bytesStr p19.2 x0).bind fun v22 =>
          (bin .neq v21 v22).bind fun v23 =>
          ref27_Changes.j1 J  x5 v23 p19.2)))) (
    (call n_warrantorref02_Reader_End [AV.canon x4] h).bind fun p24 => retOr p24.1 (fun r25p => some (AEnd.pan r25p, p24.2)) fun r25 =>
    (nilOk x4).bind fun v26 =>
    (fAddr 2 v26).bind fun v27 =>
    (ldCell p24.2 v27).bind fun v28 =>
    (bin .neq v28 (.int .i64 0)).bind fun v29 =>
    condV v29 (
      ref27_Changes.j1 J  x5 (.bool true) p24.2) (
      (call n_warrantorref27_Batch [AV.canon x5] p24.2).bind fun p30 => retOr p30.1 (fun _ => none) fun r31 =>
      (unOp .not r31).bind fun v32 =>
      condV v32 (
        ref27_Changes.j1 J  x5 (.bool true) p30.2) (
        (call n_warrantorref27_Body [AV.canon x5] p30.2).bind fun p33 => retOr p33.1 (fun _ => none) fun r34 =>
        (bytesStr p33.2 r34).bind fun v35 =>
        (bytesStr p33.2 x0).bind fun v36 =>
        (bin .neq v35 v36).bind fun v37 =>
        ref27_Changes.j1 J  x5 v37 p33.2))) := (hJ _ _ _ (by kernel_rfl)).trans (by kernel_rfl)
theorem ref27_Changes.j0_eq {call : Cl} {n : Nat} {J : Jn (AEnd × H)} (hJ : ref27_Changes.F call n J) (m0 : Nat) (x0 x4 x5 x6 : AV) (h : H) : ref27_Changes.j0 J m0 x0 x4 x5 x6 h =
  (call n_warrantorref27_change [AV.canon x4] h).bind fun p38 => retOr p38.1 (fun r39p => some (AEnd.pan r39p, p38.2)) fun r39 =>
  (mkRows 11 [.int .i64 0, .int .u64 0, .int .i64 0, .int .i64 0, .str [], .str [], .int .i64 0, .str [], .int .i64 0, .int .i64 0, .str []] 1 [(0, r39)]).bind fun v40 =>
  (apSlice 11 120 false true p38.2 x5 v40).bind fun v41 =>
  (bin .sub x6 (.int .i64 1)).bind fun v42 =>
  ref27_Changes.l0 J m0 x0 x4 v41 v42 p38.2 := (hJ _ _ _ (by kernel_rfl)).trans (by kernel_rfl)
theorem ref27_Changes.j1_eq {call : Cl} {n : Nat} {J : Jn (AEnd × H)} (hJ : ref27_Changes.F call n J) (x5 x47 : AV) (h : H) : ref27_Changes.j1 J  x5 x47 h =
  condV x47 (
    some (AEnd.ret (.tuple [(.list [] .cap), (.bool false)]), h)) (
    some (AEnd.ret (.tuple [x5, (.bool true)]), h)) := (hJ _ _ _ (by kernel_rfl)).trans (by kernel_rfl)
noncomputable def ref27_Body.A : FAnn := { nv := 7, mv := [(4, 0), (6, 0), (7, 0), (9, 0), (11, 0), (13, 0), (14, 0)], ld := [], lst := [], obj := [(5, 9)], q := [69, 74], raw := [] }
noncomputable def ref27_Body.an : Ann := .mk none .nil (.mk none .nil (.mk none (.mk none .nil (.mk none (.mk none (.mk (some [(0, 0), (3, 255), (4, 0)]) .nil (.mk none (.mk none (.mk none .nil (.mk none .nil (.mk none .nil (.mk none (.mk none .nil (.mk (some [(0, 0), (3, 255), (4, 0), (5, 0), (6, 0), (50, 0)]) .nil .nil)) (.mk (some [(0, 0), (3, 255), (4, 0), (5, 0), (6, 0)]) .nil (.mk (some [(0, 0), (3, 255), (4, 0), (5, 0), (6, 0)]) .nil (.mk (some [(0, 0), (3, 255), (4, 0), (6, 0), (75, 0)]) .nil .nil))))))) .nil) .nil)) .nil) .nil)) .nil))
noncomputable abbrev ref27_Body.c : Code := Tryz.f28.body.getD .skip
noncomputable def ref27_Body.J (call : Cl) (n : Nat) : Jn (AEnd × H) := realJ Tryz.prog ref27_Body.A call Tryz.f28 ref27_Body.an ref27_Body.c n
abbrev ref27_Body.F (call : Cl) (n : Nat) (J : Jn (AEnd × H)) : Prop := JFix Tryz.prog ref27_Body.A call Tryz.f28 ref27_Body.an ref27_Body.c n J
def ref27_Body.f (J : Jn (AEnd × H)) (x0 : AV) (h : H) : Option (AEnd × H) := J [] [] ⟨[(0, x0)], [], [], h⟩
def ref27_Body.l0 (J : Jn (AEnd × H)) (m0 : Nat) (x0 x3 x4 : AV) (h : H) : Option (AEnd × H) := J [1, 1, 0, 1, 0] [m0] ⟨[(0, x0), (3, x3), (4, x4)], [(0, 0), (3, 255), (4, 0)], [], h⟩
def ref27_Body.j1 (J : Jn (AEnd × H)) (m0 : Nat) (x0 x3 x4 x5 x6 x50 : AV) (h : H) : Option (AEnd × H) := J [1, 1, 0, 1, 0, 0, 1, 0, 0, 1, 1, 1, 0, 1] [m0] ⟨[(0, x0), (3, x3), (4, x4), (5, x5), (6, x6), (50, x50)], [(0, 0), (3, 255), (4, 0), (5, 0), (6, 0), (50, 0)], [], h⟩
def ref27_Body.j0 (J : Jn (AEnd × H)) (m0 : Nat) (x0 x3 x4 x5 x6 : AV) (h : H) : Option (AEnd × H) := J [1, 1, 0, 1, 0, 0, 1, 0, 0, 1, 1, 1, 1] [m0] ⟨[(0, x0), (3, x3), (4, x4), (5, x5), (6, x6)], [(0, 0), (3, 255), (4, 0), (5, 0), (6, 0)], [], h⟩
def ref27_Body.j2 (J : Jn (AEnd × H)) (m0 : Nat) (x0 x3 x4 x5 x6 : AV) (h : H) : Option (AEnd × H) := J [1, 1, 0, 1, 0, 0, 1, 0, 0, 1, 1, 1, 1, 1] [m0] ⟨[(0, x0), (3, x3), (4, x4), (5, x5), (6, x6)], [(0, 0), (3, 255), (4, 0), (5, 0), (6, 0)], [], h⟩
def ref27_Body.j3 (J : Jn (AEnd × H)) (m0 : Nat) (x0 x3 x4 x6 x75 : AV) (h : H) : Option (AEnd × H) := J [1, 1, 0, 1, 0, 0, 1, 0, 0, 1, 1, 1, 1, 1, 1] [m0] ⟨[(0, x0), (3, x3), (4, x4), (6, x6), (75, x75)], [(0, 0), (3, 255), (4, 0), (6, 0), (75, 0)], [], h⟩
theorem ref27_Body.f_eq {call : Cl} {n : Nat} {J : Jn (AEnd × H)} (hJ : ref27_Body.F call n J) (x0 : AV) (h : H) : ref27_Body.f J x0 h =
  (lnSl x0).bind fun v1 =>
  (call n_warrantorref02_Num [AV.canon v1] h).bind fun p2 => retOr p2.1 (fun r3p => some (AEnd.pan r3p, p2.2)) fun r3 =>
  ref27_Body.l0 J n x0 r3 (.int .i64 0) p2.2 := (hJ _ _ _ (by kernel_rfl)).trans (by kernel_rfl)
theorem ref27_Body.l0_eq {call : Cl} {n : Nat} {J : Jn (AEnd × H)} (hJ : ref27_Body.F call n J) (m0 : Nat) (x0 x3 x4 : AV) (h : H) : ref27_Body.l0 J (m0 + 1) x0 x3 x4 h =
  (lnSl x0).bind fun v4 =>
  (bin .lss x4 v4).bind fun v5 =>
  condV v5 (
    let h6 : H := h ++ [.arr [.int .i64 0, .int .u64 0, .int .i64 0, .int .i64 0, .str [], .str [], .int .i64 0, .str [], .int .i64 0, .int .i64 0, .str []] false]
    (ixSlice 11 x0 x4).bind fun v7 =>
    (ldAgg 11 h6 v7).bind fun v8 =>
    (ixSlice 11 x0 x4).bind fun v9 =>
    (fAddr 1 v9).bind fun v10 =>
    (ldAgg 10 h6 v10).bind fun v11 =>
    (slotOp h.length [.int .i64 0, .int .u64 0, .int .i64 0, .int .i64 0, .str [], .str [], .int .i64 0, .str [], .int .i64 0, .int .i64 0, .str []] h6).bind fun v12 =>
    let h13 : H := h6 ++ [.arr [.int .u64 0, .int .i64 0, .int .i64 0, .str [], .str [], .int .i64 0, .str [], .int .i64 0, .int .i64 0, .str []] false]
    (stN 11 h13 v12 (AV.copy v8)).bind fun p14 =>
    whenB (eqO (ldAgg 10 p14.2 v10) v11) (
      (stN 10 p14.2 (.ptr h6.length 0) (AV.copy v11)).bind fun p15 =>
      (fAddr 0 v12).bind fun v16 =>
      (ldCell p15.2 v16).bind fun v17 =>
      (call n_warrantorref02_Num [AV.canon v17] p15.2).bind fun p18 => retOr p18.1 (fun r19p => some (AEnd.pan r19p, p18.2)) fun r19 =>
      (apSlice 1 1 true true p18.2 x3 r19).bind fun v20 =>
      (fAddr 0 (.ptr h6.length 0)).bind fun v21 =>
      (ldCell p18.2 v21).bind fun v22 =>
      (bin .rem v22 (.int .u64 4294967296)).bind fun v23 =>
      (cvInt .u32 v23).bind fun v24 =>
      (call n_warrantorref02_Word [AV.canon v24] p18.2).bind fun p25 => retOr p25.1 (fun _ => none) fun r26 =>
      (apSlice 1 1 true true p25.2 v20 r26).bind fun v27 =>
      (fAddr 0 (.ptr h6.length 0)).bind fun v28 =>
      (ldCell p25.2 v28).bind fun v29 =>
      (bin .quo v29 (.int .u64 4294967296)).bind fun v30 =>
      (cvInt .u32 v30).bind fun v31 =>
      (call n_warrantorref02_Word [AV.canon v31] p25.2).bind fun p32 => retOr p32.1 (fun _ => none) fun r33 =>
      (apSlice 1 1 true true p32.2 v27 r33).bind fun v34 =>
      (fAddr 0 v12).bind fun v35 =>
      (ldCell p32.2 v35).bind fun v36 =>
      (bin .eql v36 (.int .i64 1)).bind fun v37 =>
      condV v37 (
        ref27_Body.j1 J m0 x0 v34 x4 v12 (.ptr h6.length 0) (.bool true) p32.2) (
        (fAddr 0 v12).bind fun v38 =>
        (ldCell p32.2 v38).bind fun v39 =>
        (bin .eql v39 (.int .i64 5)).bind fun v40 =>
        ref27_Body.j1 J m0 x0 v34 x4 v12 (.ptr h6.length 0) v40 p32.2))) (
    some (AEnd.ret x3, h)) := (hJ _ _ _ (by kernel_rfl)).trans (by kernel_rfl)
theorem ref27_Body.j1_eq {call : Cl} {n : Nat} {J : Jn (AEnd × H)} (hJ : ref27_Body.F call n J) (m0 : Nat) (x0 x3 x4 x5 x6 x50 : AV) (h : H) : ref27_Body.j1 J m0 x0 x3 x4 x5 x6 x50 h =
  condV x50 (
    (fAddr 1 x6).bind fun v41 =>
    (ldAgg 6 h v41).bind fun v42 =>
    (call n_warrantorref27_alarm [AV.canon v42] h).bind fun p43 => retOr p43.1 (fun r44p => some (AEnd.pan r44p, p43.2)) fun r44 =>
    (apSlice 1 1 true true p43.2 x3 r44).bind fun v45 =>
    ref27_Body.j0 J m0 x0 v45 x4 x5 x6 p43.2) (
    ref27_Body.j0 J m0 x0 x3 x4 x5 x6 h) := (hJ _ _ _ (by kernel_rfl)).trans (by kernel_rfl)
theorem ref27_Body.j0_eq {call : Cl} {n : Nat} {J : Jn (AEnd × H)} (hJ : ref27_Body.F call n J) (m0 : Nat) (x0 x3 x4 x5 x6 : AV) (h : H) : ref27_Body.j0 J m0 x0 x3 x4 x5 x6 h =
  (fAddr 0 x5).bind fun v46 =>
  (ldCell h v46).bind fun v47 =>
  (bin .eql v47 (.int .i64 5)).bind fun v48 =>
  condV v48 (
    (fAddr 7 x6).bind fun v49 =>
    (ldCell h v49).bind fun v50 =>
    (call n_warrantorref02_Num [AV.canon v50] h).bind fun p51 => retOr p51.1 (fun _ => none) fun r52 =>
    (apSlice 1 1 true true p51.2 x3 r52).bind fun v53 =>
    (fAddr 8 x6).bind fun v54 =>
    (ldCell p51.2 v54).bind fun v55 =>
    (call n_warrantorref02_Num [AV.canon v55] p51.2).bind fun p56 => retOr p56.1 (fun _ => none) fun r57 =>
    (apSlice 1 1 true true p56.2 v53 r57).bind fun v58 =>
    ref27_Body.j2 J m0 x0 v58 x4 x5 x6 p56.2) (
    ref27_Body.j2 J m0 x0 x3 x4 x5 x6 h) := (hJ _ _ _ (by kernel_rfl)).trans (by kernel_rfl)
theorem ref27_Body.j2_eq {call : Cl} {n : Nat} {J : Jn (AEnd × H)} (hJ : ref27_Body.F call n J) (m0 : Nat) (x0 x3 x4 x5 x6 : AV) (h : H) : ref27_Body.j2 J m0 x0 x3 x4 x5 x6 h =
  (fAddr 0 x5).bind fun v59 =>
  (ldCell h v59).bind fun v60 =>
  (bin .eql v60 (.int .i64 2)).bind fun v61 =>
  condV v61 (
    ref27_Body.j3 J m0 x0 x3 x4 x6 (.bool true) h) (
    (fAddr 0 x5).bind fun v62 =>
    (ldCell h v62).bind fun v63 =>
    (bin .eql v63 (.int .i64 5)).bind fun v64 =>
    ref27_Body.j3 J m0 x0 x3 x4 x6 v64 h) := (hJ _ _ _ (by kernel_rfl)).trans (by kernel_rfl)
theorem ref27_Body.j3_eq {call : Cl} {n : Nat} {J : Jn (AEnd × H)} (hJ : ref27_Body.F call n J) (m0 : Nat) (x0 x3 x4 x6 x75 : AV) (h : H) : ref27_Body.j3 J m0 x0 x3 x4 x6 x75 h =
  condV x75 (
    (fAddr 9 x6).bind fun v65 =>
    (ldCell h v65).bind fun v66 =>
    (call n_warrantorref02_Text [AV.canon v66] h).bind fun p67 => retOr p67.1 (fun r68p => some (AEnd.pan r68p, p67.2)) fun r68 =>
    (apSlice 1 1 true true p67.2 x3 r68).bind fun v69 =>
    (bin .add x4 (.int .i64 1)).bind fun v70 =>
    ref27_Body.l0 J m0 x0 v69 v70 p67.2) (
    (bin .add x4 (.int .i64 1)).bind fun v71 =>
    ref27_Body.l0 J m0 x0 x3 v71 h) := (hJ _ _ _ (by kernel_rfl)).trans (by kernel_rfl)
noncomputable def ref03_Turn.A : FAnn := { nv := 12, mv := [(1, 1), (4, 0), (10, 0), (11, 0), (12, 4), (12, 8), (13, 0), (14, 0)], ld := [], lst := [(1, 2)], obj := [], q := [], raw := [] }
noncomputable def ref03_Turn.an : Ann := .mk none .nil (.mk none .nil (.mk none (.mk none .nil (.mk none (.mk none (.mk (some [(1, 0), (2, 0), (7, 255), (8, 0)]) .nil (.mk none (.mk none (.mk none (.mk none .nil (.mk (some [(1, 0), (2, 0), (7, 255), (8, 0), (30, 0)]) (.mk none .nil (.mk none .nil (.mk none (.mk none .nil (.mk none (.mk none (.mk (some [(1, 0), (2, 0), (7, 255), (8, 0), (9, 0), (10, 0), (11, 0)]) .nil .nil) .nil) .nil)) .nil))) .nil)) .nil) .nil) .nil)) .nil) .nil)) .nil))
noncomputable abbrev ref03_Turn.c : Code := Tryz.f29.body.getD .skip
noncomputable def ref03_Turn.J (call : Cl) (n : Nat) : Jn (AEnd × H) := realJ Tryz.prog ref03_Turn.A call Tryz.f29 ref03_Turn.an ref03_Turn.c n
abbrev ref03_Turn.F (call : Cl) (n : Nat) (J : Jn (AEnd × H)) : Prop := JFix Tryz.prog ref03_Turn.A call Tryz.f29 ref03_Turn.an ref03_Turn.c n J
def ref03_Turn.f (J : Jn (AEnd × H)) (x0 x1 x2 : AV) (h : H) : Option (AEnd × H) := J [] [] ⟨[(0, x0), (1, x1), (2, x2)], [], [], h⟩
def ref03_Turn.l0 (J : Jn (AEnd × H)) (m0 : Nat) (x1 x2 x7 x8 : AV) (h : H) : Option (AEnd × H) := J [1, 1, 0, 1, 0] [m0] ⟨[(1, x1), (2, x2), (7, x7), (8, x8)], [(1, 0), (2, 0), (7, 255), (8, 0)], [], h⟩
def ref03_Turn.j0 (J : Jn (AEnd × H)) (m0 : Nat) (x1 x2 x7 x8 x30 : AV) (h : H) : Option (AEnd × H) := J [1, 1, 0, 1, 0, 0, 1, 0, 0, 0, 1] [m0] ⟨[(1, x1), (2, x2), (7, x7), (8, x8), (30, x30)], [(1, 0), (2, 0), (7, 255), (8, 0), (30, 0)], [], h⟩
def ref03_Turn.l1 (J : Jn (AEnd × H)) (m0 m1 : Nat) (x1 x2 x7 x8 x9 x10 x11 : AV) (h : H) : Option (AEnd × H) := J [1, 1, 0, 1, 0, 0, 1, 0, 0, 0, 1, 0, 1, 1, 0, 1, 0] [m0, m1] ⟨[(1, x1), (2, x2), (7, x7), (8, x8), (9, x9), (10, x10), (11, x11)], [(1, 0), (2, 0), (7, 255), (8, 0), (9, 0), (10, 0), (11, 0)], [], h⟩
theorem ref03_Turn.f_eq {call : Cl} {n : Nat} {J : Jn (AEnd × H)} (hJ : ref03_Turn.F call n J) (x0 x1 x2 : AV) (h : H) : ref03_Turn.f J x0 x1 x2 h =
  (mkRows 1 [.int .u8 0] 0 []).bind fun v1 =>
  (apObj 1 1 true h v1 x0).bind fun p2 =>
  ref03_Turn.l0 J n x1 x2 p2.1 (.int .i64 0) p2.2 := (hJ _ _ _ (by kernel_rfl)).trans (by kernel_rfl)
theorem ref03_Turn.l0_eq {call : Cl} {n : Nat} {J : Jn (AEnd × H)} (hJ : ref03_Turn.F call n J) (m0 : Nat) (x1 x2 x7 x8 : AV) (h : H) : ref03_Turn.l0 J (m0 + 1) x1 x2 x7 x8 h =
  (bin .lss x8 (.int .i64 32)).bind fun v3 =>
  condV v3 (
    (bin .rem x2 (.int .u32 2)).bind fun v4 =>
    (bin .eql v4 (.int .u32 1)).bind fun v5 =>
    condV v5 (
      (bin .add x1 x8).bind fun v6 =>
      (lnSl x7).bind fun v7 =>
      (bin .mul (.int .i64 8) v7).bind fun v8 =>
      (bin .lss v6 v8).bind fun v9 =>
      ref03_Turn.j0 J m0 x1 x2 x7 x8 v9 h) (
      ref03_Turn.j0 J m0 x1 x2 x7 x8 (.bool false) h)) (
    some (AEnd.ret x7, h)) := (hJ _ _ _ (by kernel_rfl)).trans (by kernel_rfl)
theorem ref03_Turn.j0_eq {call : Cl} {n : Nat} {J : Jn (AEnd × H)} (hJ : ref03_Turn.F call n J) (m0 : Nat) (x1 x2 x7 x8 x30 : AV) (h : H) : ref03_Turn.j0 J m0 x1 x2 x7 x8 x30 h =
  condV x30 (
    (bin .add x1 x8).bind fun v10 =>
    ref03_Turn.l1 J m0 n x1 x2 x7 x8 v10 (.int .u8 1) (.int .i64 0) h) (
    (bin .quo x2 (.int .u32 2)).bind fun v11 =>
    (bin .add x8 (.int .i64 1)).bind fun v12 =>
    ref03_Turn.l0 J m0 x1 v11 x7 v12 h) := (hJ _ _ _ (by kernel_rfl)).trans (by kernel_rfl)
theorem ref03_Turn.l1_eq {call : Cl} {n : Nat} {J : Jn (AEnd × H)} (hJ : ref03_Turn.F call n J) (m0 m1 : Nat) (x1 x2 x7 x8 x9 x10 x11 : AV) (h : H) : ref03_Turn.l1 J m0 (m1 + 1) x1 x2 x7 x8 x9 x10 x11 h =
  (bin .rem x9 (.int .i64 8)).bind fun v13 =>
  (bin .lss x11 v13).bind fun v14 =>
  condV v14 (
    (bin .mul (.int .u8 2) x10).bind fun v15 =>
    (bin .add x11 (.int .i64 1)).bind fun v16 =>
    ref03_Turn.l1 J m0 m1 x1 x2 x7 x8 x9 v15 v16 h) (
    (bin .quo x9 (.int .i64 8)).bind fun v17 =>
    (bin .quo x9 (.int .i64 8)).bind fun v18 =>
    (ixSlice 1 x7 v18).bind fun v19 =>
    (ldCell h v19).bind fun v20 =>
    (bin .xor v20 x10).bind fun v21 =>
    (ixSlice 1 x7 v17).bind fun v22 =>
    (stN 1 h v22 (AV.copy v21)).bind fun p23 =>
    (bin .quo x2 (.int .u32 2)).bind fun v24 =>
    (bin .add x8 (.int .i64 1)).bind fun v25 =>
    ref03_Turn.l0 J m0 x1 v24 x7 v25 p23.2) := (hJ _ _ _ (by kernel_rfl)).trans (by kernel_rfl)
noncomputable def ref17_Large.A : FAnn := { nv := 4, mv := [(5, 0)], ld := [], lst := [], obj := [], q := [], raw := [] }
noncomputable def ref17_Large.an : Ann := .mk none .nil (.mk none .nil (.mk none (.mk none .nil (.mk none (.mk none (.mk (some [(0, 0), (3, 0)]) .nil (.mk none (.mk none (.mk none .nil (.mk (some [(0, 0), (3, 0), (37, 0)]) .nil .nil)) .nil) .nil)) .nil) .nil)) .nil))
noncomputable abbrev ref17_Large.c : Code := Tryz.f45.body.getD .skip
noncomputable def ref17_Large.J (call : Cl) (n : Nat) : Jn (AEnd × H) := realJ Tryz.prog ref17_Large.A call Tryz.f45 ref17_Large.an ref17_Large.c n
abbrev ref17_Large.F (call : Cl) (n : Nat) (J : Jn (AEnd × H)) : Prop := JFix Tryz.prog ref17_Large.A call Tryz.f45 ref17_Large.an ref17_Large.c n J
def ref17_Large.f (J : Jn (AEnd × H)) (x0 : AV) (h : H) : Option (AEnd × H) := J [] [] ⟨[(0, x0)], [], [], h⟩
def ref17_Large.l0 (J : Jn (AEnd × H)) (m0 : Nat) (x0 x3 : AV) (h : H) : Option (AEnd × H) := J [1, 1, 0, 1, 0] [m0] ⟨[(0, x0), (3, x3)], [(0, 0), (3, 0)], [], h⟩
def ref17_Large.j0 (J : Jn (AEnd × H)) (m0 : Nat) (x0 x3 x37 : AV) (h : H) : Option (AEnd × H) := J [1, 1, 0, 1, 0, 0, 1, 0, 0, 1] [m0] ⟨[(0, x0), (3, x3), (37, x37)], [(0, 0), (3, 0), (37, 0)], [], h⟩
theorem ref17_Large.f_eq {call : Cl} {n : Nat} {J : Jn (AEnd × H)} (hJ : ref17_Large.F call n J) (x0 : AV) (h : H) : ref17_Large.f J x0 h =
  (lnSl x0).bind fun v1 =>
  (bin .gtr v1 (.int .i64 100)).bind fun v2 =>
  condV v2 (
    some (AEnd.ret (.bool true), h)) (
    ref17_Large.l0 J n x0 (.int .i64 0) h) := (hJ _ _ _ (by kernel_rfl)).trans (by kernel_rfl)
theorem ref17_Large.l0_eq {call : Cl} {n : Nat} {J : Jn (AEnd × H)} (hJ : ref17_Large.F call n J) (m0 : Nat) (x0 x3 : AV) (h : H) : ref17_Large.l0 J (m0 + 1) x0 x3 h =
  (lnSl x0).bind fun v3 =>
  (bin .lss x3 v3).bind fun v4 =>
  condV v4 (
    (ixSlice 6 x0 x3).bind fun v5 =>
    (fAddr 2 v5).bind fun v6 =>
    (ldCell h v6).bind fun v7 =>
    (lnStr v7).bind fun v8 =>
    (bin .gtr v8 (.int .i64 300)).bind fun v9 =>
    condV v9 (
      ref17_Large.j0 J m0 x0 x3 (.bool true) h) (
      (ixSlice 6 x0 x3).bind fun v10 =>
      (fAddr 3 v10).bind fun v11 =>
      (ldCell h v11).bind fun v12 =>
      (lnStr v12).bind fun v13 =>
      (bin .gtr v13 (.int .i64 300)).bind fun v14 =>
      condV v14 (
        ref17_Large.j0 J m0 x0 x3 (.bool true) h) (
        (ixSlice 6 x0 x3).bind fun v15 =>
        (fAddr 5 v15).bind fun v16 =>
        (ldCell h v16).bind fun v17 =>
        (lnStr v17).bind fun v18 =>
        (bin .gtr v18 (.int .i64 300)).bind fun v19 =>
        ref17_Large.j0 J m0 x0 x3 v19 h))) (
    some (AEnd.ret (.bool false), h)) := (hJ _ _ _ (by kernel_rfl)).trans (by kernel_rfl)
theorem ref17_Large.j0_eq {call : Cl} {n : Nat} {J : Jn (AEnd × H)} (hJ : ref17_Large.F call n J) (m0 : Nat) (x0 x3 x37 : AV) (h : H) : ref17_Large.j0 J m0 x0 x3 x37 h =
  condV x37 (
    some (AEnd.ret (.bool true), h)) (
    (bin .add x3 (.int .i64 1)).bind fun v20 =>
    ref17_Large.l0 J m0 x0 v20 h) := (hJ _ _ _ (by kernel_rfl)).trans (by kernel_rfl)
noncomputable def rec_kinds.A : FAnn := { nv := 2, mv := [], ld := [], lst := [], obj := [], q := [], raw := [] }
noncomputable def rec_kinds.an : Ann := .nil
noncomputable abbrev rec_kinds.c : Code := Tryz.f46.body.getD .skip
noncomputable def rec_kinds.J (call : Cl) (n : Nat) : Jn (AEnd × H) := realJ Tryz.prog rec_kinds.A call Tryz.f46 rec_kinds.an rec_kinds.c n
abbrev rec_kinds.F (call : Cl) (n : Nat) (J : Jn (AEnd × H)) : Prop := JFix Tryz.prog rec_kinds.A call Tryz.f46 rec_kinds.an rec_kinds.c n J
def rec_kinds.f (J : Jn (AEnd × H)) (h : H) : Option (AEnd × H) := J [] [] ⟨[], [], [], h⟩
theorem rec_kinds.f_eq {call : Cl} {n : Nat} {J : Jn (AEnd × H)} (hJ : rec_kinds.F call n J) (h : H) : rec_kinds.f J  h =
  let h1 : H := h ++ [.arr [.nilFunc] false]
  (stN 1 h1 (.ptr h.length 0) (AV.copy (.func (.func n_rec_kinds_c1) [] []))).bind fun p2 =>
  let h3 : H := p2.2 ++ [.map []]
  (mkRows 1 [.nilFunc] 1 [(0, .func (.func n_rec_pen_alarm) [] [])]).bind fun v4 =>
  (mkRows 1 [.nilFunc] 1 [(0, .func (.func n_rec_taker_alarm) [] [])]).bind fun v5 =>
  (mkAgg [.list [] .cap, .list [] .cap, .nilFunc] [(0, 1, AV.copy v4), (1, 1, AV.copy v5), (2, 1, AV.copy (.func (.func n_rec_kinds_c2) [] [AV.copy (.ptr h.length 0)]))]).bind fun v6 =>
  (upMap .int h3 (.map p2.2.length) (.int .i64 1) v6).bind fun p7 =>
  (mkRows 1 [.nilFunc] 1 [(0, .func (.func n_rec_pen_note) [] [])]).bind fun v8 =>
  (mkRows 1 [.nilFunc] 1 [(0, .func (.func n_rec_taker_note) [] [])]).bind fun v9 =>
  (mkAgg [.list [] .cap, .list [] .cap, .nilFunc] [(0, 1, AV.copy v8), (1, 1, AV.copy v9), (2, 1, AV.copy (.func (.func n_rec_kinds_c3) [] [AV.copy (.ptr h.length 0)]))]).bind fun v10 =>
  (upMap .int p7.2 (.map p2.2.length) (.int .i64 2) v10).bind fun p11 =>
  (ldCell p11.2 (.ptr h.length 0)).bind fun v12 =>
  (mkAgg [.list [] .cap, .list [] .cap, .nilFunc] [(2, 1, AV.copy v12)]).bind fun v13 =>
  (upMap .int p11.2 (.map p2.2.length) (.int .i64 3) v13).bind fun p14 =>
  (ldCell p14.2 (.ptr h.length 0)).bind fun v15 =>
  (mkAgg [.list [] .cap, .list [] .cap, .nilFunc] [(2, 1, AV.copy v15)]).bind fun v16 =>
  (upMap .int p14.2 (.map p2.2.length) (.int .i64 4) v16).bind fun p17 =>
  (mkRows 1 [.nilFunc] 3 [(0, .func (.func n_rec_pen_alarm) [] []), (1, .func (.func n_rec_pen_stand) [] []), (2, .func (.func n_rec_pen_note) [] [])]).bind fun v18 =>
  (mkRows 1 [.nilFunc] 3 [(0, .func (.func n_rec_taker_alarm) [] []), (1, .func (.func n_rec_taker_stand) [] []), (2, .func (.func n_rec_taker_note) [] [])]).bind fun v19 =>
  (mkAgg [.list [] .cap, .list [] .cap, .nilFunc] [(0, 1, AV.copy v18), (1, 1, AV.copy v19), (2, 1, AV.copy (.func (.func n_rec_Right) [] []))]).bind fun v20 =>
  (upMap .int p17.2 (.map p2.2.length) (.int .i64 5) v20).bind fun p21 =>
  some (AEnd.ret (AV.copy (.map p2.2.length)), p21.2) := (hJ _ _ _ (by kernel_rfl)).trans (by kernel_rfl)
noncomputable def alarm_Check.A : FAnn := { nv := 6, mv := [(4, 0), (4, 3)], ld := [], lst := [], obj := [], q := [], raw := [] }
noncomputable def alarm_Check.an : Ann := .mk none .nil (.mk none .nil (.mk (some [(1, 0), (3, 0)]) .nil (.mk (some [(1, 0), (3, 0), (4, 0)]) .nil (.mk none (.mk none .nil (.mk (some [(49, 0)]) .nil .nil)) .nil))))
noncomputable abbrev alarm_Check.c : Code := Tryz.f47.body.getD .skip
noncomputable def alarm_Check.J (call : Cl) (n : Nat) : Jn (AEnd × H) := realJ Tryz.prog alarm_Check.A call Tryz.f47 alarm_Check.an alarm_Check.c n
abbrev alarm_Check.F (call : Cl) (n : Nat) (J : Jn (AEnd × H)) : Prop := JFix Tryz.prog alarm_Check.A call Tryz.f47 alarm_Check.an alarm_Check.c n J
def alarm_Check.f (J : Jn (AEnd × H)) (x0 : AV) (h : H) : Option (AEnd × H) := J [] [] ⟨[(0, x0)], [], [], h⟩
def alarm_Check.j0 (J : Jn (AEnd × H)) (x1 x3 : AV) (h : H) : Option (AEnd × H) := J [1, 1] [] ⟨[(1, x1), (3, x3)], [(1, 0), (3, 0)], [], h⟩
def alarm_Check.j1 (J : Jn (AEnd × H)) (x1 x3 x4 : AV) (h : H) : Option (AEnd × H) := J [1, 1, 1] [] ⟨[(1, x1), (3, x3), (4, x4)], [(1, 0), (3, 0), (4, 0)], [], h⟩
def alarm_Check.j2 (J : Jn (AEnd × H)) (x49 : AV) (h : H) : Option (AEnd × H) := J [1, 1, 1, 1, 0, 1] [] ⟨[(49, x49)], [(49, 0)], [], h⟩
theorem alarm_Check.f_eq {call : Cl} {n : Nat} {J : Jn (AEnd × H)} (hJ : alarm_Check.F call n J) (x0 : AV) (h : H) : alarm_Check.f J x0 h =
  (bx h (AV.copy x0)).bind fun p1 =>
  (fAddr 0 p1.1).bind fun v2 =>
  (ldCell p1.2 v2).bind fun v3 =>
  (bin .geq v3 (.int .i64 1)).bind fun v4 =>
  condV v4 (
    (fAddr 0 p1.1).bind fun v5 =>
    (ldCell p1.2 v5).bind fun v6 =>
    (bin .leq v6 (.int .i64 3)).bind fun v7 =>
    alarm_Check.j0 J  p1.1 v7 p1.2) (
    alarm_Check.j0 J  p1.1 (.bool false) p1.2) := (hJ _ _ _ (by kernel_rfl)).trans (by kernel_rfl)
theorem alarm_Check.j0_eq {call : Cl} {n : Nat} {J : Jn (AEnd × H)} (hJ : alarm_Check.F call n J) (x1 x3 : AV) (h : H) : alarm_Check.j0 J  x1 x3 h =
  (fAddr 1 x1).bind fun v8 =>
  (ldCell h v8).bind fun v9 =>
  (bin .geq v9 (.int .i64 1)).bind fun v10 =>
  condV v10 (
    (fAddr 1 x1).bind fun v11 =>
    (ldCell h v11).bind fun v12 =>
    (bin .leq v12 (.int .i64 2)).bind fun v13 =>
    alarm_Check.j1 J  x1 x3 v13 h) (
    alarm_Check.j1 J  x1 x3 (.bool false) h) := (hJ _ _ _ (by kernel_rfl)).trans (by kernel_rfl)
theorem alarm_Check.j1_eq {call : Cl} {n : Nat} {J : Jn (AEnd × H)} (hJ : alarm_Check.F call n J) (x1 x3 x4 : AV) (h : H) : alarm_Check.j1 J  x1 x3 x4 h =
  (fAddr 2 x1).bind fun v14 =>
  (ldCell h v14).bind fun v15 =>
  (fAddr 2 x1).bind fun v16 =>
  (ldCell h v16).bind fun v17 =>
  (fAddr 3 x1).bind fun v18 =>
  (ldCell h v18).bind fun v19 =>
  (fAddr 4 x1).bind fun v20 =>
  (ldCell h v20).bind fun v21 =>
  (mkAgg [.str [], .str [], .int .i64 0] [(0, 1, AV.copy v17), (1, 1, AV.copy v19), (2, 1, AV.copy v21)]).bind fun v22 =>
  (mkRows 3 [.str [], .str [], .int .i64 0] 1 [(0, v22)]).bind fun v23 =>
  (mkAgg [.str [], .list [] .cap, .list [] .cap, .list [] .cap] [(0, 1, AV.copy v15), (2, 1, AV.copy v23)]).bind fun v24 =>
  let h25 : H := h ++ [.arr [.str [], .list [] .cap, .list [] .cap, .list [] .cap] false]
  (stN 4 h25 (.ptr h.length 0) v24).bind fun p26 =>
  (unOp .not x3).bind fun v27 =>
  condV v27 (
    alarm_Check.j2 J  (.bool true) p26.2) (
    (unOp .not x4).bind fun v28 =>
    condV v28 (
      alarm_Check.j2 J  (.bool true) p26.2) (
      (fAddr 5 x1).bind fun v29 =>
      (ldCell p26.2 v29).bind fun v30 =>
      (call n_alarm_expr [AV.canon v30] p26.2).bind fun p31 => retOr p31.1 (fun r32p => some (AEnd.pan r32p, p31.2)) fun r32 =>
      (unOp .not r32).bind fun v33 =>
      condV v33 (
        alarm_Check.j2 J  (.bool true) p31.2) (
        (ldAgg 4 p31.2 (.ptr h.length 0)).bind fun v34 =>
        (call n_prog_Check [AV.canon v34] p31.2).bind fun p35 => retOr p35.1 (fun r36p => some (AEnd.pan r36p, p35.2)) fun r36 =>
        (bin .neq r36 (.int .i64 0)).bind fun v37 =>
        alarm_Check.j2 J  v37 p35.2))) := (hJ _ _ _ (by kernel_rfl)).trans (by kernel_rfl)
theorem alarm_Check.j2_eq {call : Cl} {n : Nat} {J : Jn (AEnd × H)} (hJ : alarm_Check.F call n J) (x49 : AV) (h : H) : alarm_Check.j2 J  x49 h =
  condV x49 (
    some (AEnd.ret (.int .i64 170), h)) (
    some (AEnd.ret (.int .i64 0), h)) := (hJ _ _ _ (by kernel_rfl)).trans (by kernel_rfl)
noncomputable def rec_note.A : FAnn := { nv := 2, mv := [(1, 0)], ld := [], lst := [], obj := [], q := [], raw := [] }
noncomputable def rec_note.an : Ann := .nil
noncomputable abbrev rec_note.c : Code := Tryz.f48.body.getD .skip
noncomputable def rec_note.J (call : Cl) (n : Nat) : Jn (AEnd × H) := realJ Tryz.prog rec_note.A call Tryz.f48 rec_note.an rec_note.c n
abbrev rec_note.F (call : Cl) (n : Nat) (J : Jn (AEnd × H)) : Prop := JFix Tryz.prog rec_note.A call Tryz.f48 rec_note.an rec_note.c n J
def rec_note.f (J : Jn (AEnd × H)) (x0 : AV) (h : H) : Option (AEnd × H) := J [] [] ⟨[(0, x0)], [], [], h⟩
theorem rec_note.f_eq {call : Cl} {n : Nat} {J : Jn (AEnd × H)} (hJ : rec_note.F call n J) (x0 : AV) (h : H) : rec_note.f J x0 h =
  (mkAgg [.int .u64 0, .str []] [(1, 1, AV.copy x0)]).bind fun v1 =>
  (mkRows 2 [.int .u64 0, .str []] 1 [(0, v1)]).bind fun v2 =>
  (call n_result_Base [AV.canon v2] h).bind fun p3 => retOr p3.1 (fun r4p => some (AEnd.pan r4p, p3.2)) fun r4 =>
  (bin .eql r4 (.int .i64 0)).bind fun v5 =>
  some (AEnd.ret (AV.copy v5), p3.2) := (hJ _ _ _ (by kernel_rfl)).trans (by kernel_rfl)
noncomputable def ref17_Check.A : FAnn := { nv := 2, mv := [], ld := [], lst := [], obj := [], q := [], raw := [] }
noncomputable def ref17_Check.an : Ann := .mk none .nil (.mk none (.mk none .nil (.mk (some [(1, 0), (30, 0)]) .nil .nil)) (.mk (some [(1, 0)]) .nil .nil))
noncomputable abbrev ref17_Check.c : Code := Tryz.f49.body.getD .skip
noncomputable def ref17_Check.J (call : Cl) (n : Nat) : Jn (AEnd × H) := realJ Tryz.prog ref17_Check.A call Tryz.f49 ref17_Check.an ref17_Check.c n
abbrev ref17_Check.F (call : Cl) (n : Nat) (J : Jn (AEnd × H)) : Prop := JFix Tryz.prog ref17_Check.A call Tryz.f49 ref17_Check.an ref17_Check.c n J
def ref17_Check.f (J : Jn (AEnd × H)) (x0 : AV) (h : H) : Option (AEnd × H) := J [] [] ⟨[(0, x0)], [], [], h⟩
def ref17_Check.j1 (J : Jn (AEnd × H)) (x1 x30 : AV) (h : H) : Option (AEnd × H) := J [1, 0, 1] [] ⟨[(1, x1), (30, x30)], [(1, 0), (30, 0)], [], h⟩
def ref17_Check.j0 (J : Jn (AEnd × H)) (x1 : AV) (h : H) : Option (AEnd × H) := J [1, 1] [] ⟨[(1, x1)], [(1, 0)], [], h⟩
theorem ref17_Check.f_eq {call : Cl} {n : Nat} {J : Jn (AEnd × H)} (hJ : ref17_Check.F call n J) (x0 : AV) (h : H) : ref17_Check.f J x0 h =
  (bx h (AV.copy x0)).bind fun p1 =>
  (fAddr 0 p1.1).bind fun v2 =>
  (ldCell p1.2 v2).bind fun v3 =>
  (bin .lss v3 (.int .i64 1)).bind fun v4 =>
  condV v4 (
    ref17_Check.j1 J  p1.1 (.bool true) p1.2) (
    (fAddr 0 p1.1).bind fun v5 =>
    (ldCell p1.2 v5).bind fun v6 =>
    (bin .gtr v6 (.int .i64 3)).bind fun v7 =>
    condV v7 (
      ref17_Check.j1 J  p1.1 (.bool true) p1.2) (
      (fAddr 1 p1.1).bind fun v8 =>
      (ldCell p1.2 v8).bind fun v9 =>
      (bin .lss v9 (.int .i64 1)).bind fun v10 =>
      condV v10 (
        ref17_Check.j1 J  p1.1 (.bool true) p1.2) (
        (fAddr 1 p1.1).bind fun v11 =>
        (ldCell p1.2 v11).bind fun v12 =>
        (bin .gtr v12 (.int .i64 2)).bind fun v13 =>
        condV v13 (
          ref17_Check.j1 J  p1.1 (.bool true) p1.2) (
          (fAddr 4 p1.1).bind fun v14 =>
          (ldCell p1.2 v14).bind fun v15 =>
          (bin .lss v15 (.int .i64 1)).bind fun v16 =>
          condV v16 (
            ref17_Check.j1 J  p1.1 (.bool true) p1.2) (
            (fAddr 4 p1.1).bind fun v17 =>
            (ldCell p1.2 v17).bind fun v18 =>
            (bin .gtr v18 (.int .i64 1048576)).bind fun v19 =>
            ref17_Check.j1 J  p1.1 v19 p1.2))))) := (hJ _ _ _ (by kernel_rfl)).trans (by kernel_rfl)
theorem ref17_Check.j1_eq {call : Cl} {n : Nat} {J : Jn (AEnd × H)} (hJ : ref17_Check.F call n J) (x1 x30 : AV) (h : H) : ref17_Check.j1 J  x1 x30 h =
  condV x30 (
    some (AEnd.ret (.bool false), h)) (
    ref17_Check.j0 J  x1 h) := (hJ _ _ _ (by kernel_rfl)).trans (by kernel_rfl)
theorem ref17_Check.j0_eq {call : Cl} {n : Nat} {J : Jn (AEnd × H)} (hJ : ref17_Check.F call n J) (x1 : AV) (h : H) : ref17_Check.j0 J  x1 h =
  (fAddr 2 x1).bind fun v20 =>
  (ldCell h v20).bind fun v21 =>
  (call n_warrantorref11_Name [AV.canon v21] h).bind fun p22 => retOr p22.1 (fun r23p => some (AEnd.pan r23p, p22.2)) fun r23 =>
  condV r23 (
    (fAddr 3 x1).bind fun v24 =>
    (ldCell p22.2 v24).bind fun v25 =>
    (call n_warrantorref11_File [AV.canon v25] p22.2).bind fun p26 => retOr p26.1 (fun r27p => some (AEnd.pan r27p, p26.2)) fun r27 =>
    condV r27 (
      (fAddr 5 x1).bind fun v28 =>
      (ldCell p26.2 v28).bind fun v29 =>
      (call n_warrantorref17_Expr [AV.canon v29] p26.2).bind fun p30 => retOr p30.1 (fun r31p => some (AEnd.pan r31p, p30.2)) fun r31 =>
      some (AEnd.ret (AV.copy r31), p30.2)) (
      some (AEnd.ret (AV.copy (.bool false)), p26.2))) (
    some (AEnd.ret (AV.copy (.bool false)), p22.2)) := (hJ _ _ _ (by kernel_rfl)).trans (by kernel_rfl)
noncomputable def ref21_Note.A : FAnn := { nv := 2, mv := [(1, 8)], ld := [], lst := [], obj := [], q := [], raw := [] }
noncomputable def ref21_Note.an : Ann := .nil
noncomputable abbrev ref21_Note.c : Code := Tryz.f50.body.getD .skip
noncomputable def ref21_Note.J (call : Cl) (n : Nat) : Jn (AEnd × H) := realJ Tryz.prog ref21_Note.A call Tryz.f50 ref21_Note.an ref21_Note.c n
abbrev ref21_Note.F (call : Cl) (n : Nat) (J : Jn (AEnd × H)) : Prop := JFix Tryz.prog ref21_Note.A call Tryz.f50 ref21_Note.an ref21_Note.c n J
def ref21_Note.f (J : Jn (AEnd × H)) (x0 : AV) (h : H) : Option (AEnd × H) := J [] [] ⟨[(0, x0)], [], [], h⟩
theorem ref21_Note.f_eq {call : Cl} {n : Nat} {J : Jn (AEnd × H)} (hJ : ref21_Note.F call n J) (x0 : AV) (h : H) : ref21_Note.f J x0 h =
  (lnStr x0).bind fun v1 =>
  (bin .eql v1 (.int .i64 0)).bind fun v2 =>
  condV v2 (
    some (AEnd.ret (AV.copy (.bool true)), h)) (
    (lnStr x0).bind fun v3 =>
    (bin .leq v3 (.int .i64 64)).bind fun v4 =>
    condV v4 (
      (call n_warrantorref17_Expr [AV.canon x0] h).bind fun p5 => retOr p5.1 (fun r6p => some (AEnd.pan r6p, p5.2)) fun r6 =>
      some (AEnd.ret (AV.copy r6), p5.2)) (
      some (AEnd.ret (AV.copy (.bool false)), h))) := (hJ _ _ _ (by kernel_rfl)).trans (by kernel_rfl)
noncomputable def ref27_Uses.A : FAnn := { nv := 4, mv := [(1, 0)], ld := [], lst := [], obj := [], q := [], raw := [] }
noncomputable def ref27_Uses.an : Ann := .mk none .nil (.mk none (.mk none .nil (.mk none (.mk none .nil (.mk none .nil (.mk none .nil (.mk none .nil (.mk none .nil (.mk (some [(3, 0), (4, 0), (20, 0)]) .nil .nil)))))) .nil)) .nil)
noncomputable abbrev ref27_Uses.c : Code := Tryz.f51.body.getD .skip
noncomputable def ref27_Uses.J (call : Cl) (n : Nat) : Jn (AEnd × H) := realJ Tryz.prog ref27_Uses.A call Tryz.f51 ref27_Uses.an ref27_Uses.c n
abbrev ref27_Uses.F (call : Cl) (n : Nat) (J : Jn (AEnd × H)) : Prop := JFix Tryz.prog ref27_Uses.A call Tryz.f51 ref27_Uses.an ref27_Uses.c n J
def ref27_Uses.f (J : Jn (AEnd × H)) (x0 x1 : AV) (h : H) : Option (AEnd × H) := J [] [] ⟨[(0, x0), (1, x1)], [], [], h⟩
def ref27_Uses.j0 (J : Jn (AEnd × H)) (x3 x4 x20 : AV) (h : H) : Option (AEnd × H) := J [1, 0, 1, 0, 1, 1, 1, 1, 1] [] ⟨[(3, x3), (4, x4), (20, x20)], [(3, 0), (4, 0), (20, 0)], [], h⟩
theorem ref27_Uses.f_eq {call : Cl} {n : Nat} {J : Jn (AEnd × H)} (hJ : ref27_Uses.F call n J) (x0 x1 : AV) (h : H) : ref27_Uses.f J x0 x1 h =
  (bx h (AV.copy x1)).bind fun p1 =>
  let h2 : H := p1.2 ++ [.arr [.int .u64 0, .int .i64 0, .int .i64 0, .str [], .str [], .int .i64 0, .str [], .int .i64 0, .int .i64 0, .str []] false]
  (bin .eql x0 (.int .i64 1)).bind fun v3 =>
  condV v3 (
    (fAddr 0 p1.1).bind fun v4 =>
    (ldCell h2 v4).bind fun v5 =>
    (fAddr 1 p1.1).bind fun v6 =>
    (ldAgg 6 h2 v6).bind fun v7 =>
    (mkAgg [.int .u64 0, .int .i64 0, .int .i64 0, .str [], .str [], .int .i64 0, .str [], .int .i64 0, .int .i64 0, .str []] [(0, 1, AV.copy v5), (1, 6, AV.copy v7)]).bind fun v8 =>
    (stN 10 h2 (.ptr p1.2.length 0) v8).bind fun p9 =>
    (resN [(ldAgg 10 p9.2 (.ptr p1.2.length 0)).map AV.copy]).map fun v => (AEnd.ret v, p9.2)) (
    (bin .eql x0 (.int .i64 2)).bind fun v10 =>
    condV v10 (
      (fAddr 0 p1.1).bind fun v11 =>
      (ldCell h2 v11).bind fun v12 =>
      (fAddr 9 p1.1).bind fun v13 =>
      (ldCell h2 v13).bind fun v14 =>
      (mkAgg [.int .u64 0, .int .i64 0, .int .i64 0, .str [], .str [], .int .i64 0, .str [], .int .i64 0, .int .i64 0, .str []] [(0, 1, AV.copy v12), (9, 1, AV.copy v14)]).bind fun v15 =>
      (stN 10 h2 (.ptr p1.2.length 0) v15).bind fun p16 =>
      (resN [(ldAgg 10 p16.2 (.ptr p1.2.length 0)).map AV.copy]).map fun v => (AEnd.ret v, p16.2)) (
      (bin .eql x0 (.int .i64 3)).bind fun v17 =>
      condV v17 (
        ref27_Uses.j0 J  p1.1 (.ptr p1.2.length 0) v17 h2) (
        (bin .eql x0 (.int .i64 4)).bind fun v18 =>
        ref27_Uses.j0 J  p1.1 (.ptr p1.2.length 0) v18 h2))) := (hJ _ _ _ (by kernel_rfl)).trans (by kernel_rfl)
theorem ref27_Uses.j0_eq {call : Cl} {n : Nat} {J : Jn (AEnd × H)} (hJ : ref27_Uses.F call n J) (x3 x4 x20 : AV) (h : H) : ref27_Uses.j0 J  x3 x4 x20 h =
  condV x20 (
    (fAddr 0 x3).bind fun v19 =>
    (ldCell h v19).bind fun v20 =>
    (mkAgg [.int .u64 0, .int .i64 0, .int .i64 0, .str [], .str [], .int .i64 0, .str [], .int .i64 0, .int .i64 0, .str []] [(0, 1, AV.copy v20)]).bind fun v21 =>
    (stN 10 h x4 v21).bind fun p22 =>
    (resN [(ldAgg 10 p22.2 x4).map AV.copy]).map fun v => (AEnd.ret v, p22.2)) (
    (ldAgg 10 h x3).bind fun v23 =>
    (stN 10 h x4 (AV.copy v23)).bind fun p24 =>
    (resN [(ldAgg 10 p24.2 x4).map AV.copy]).map fun v => (AEnd.ret v, p24.2)) := (hJ _ _ _ (by kernel_rfl)).trans (by kernel_rfl)
noncomputable def slices_Equal_api_Change_api_Change.A : FAnn := { nv := 6, mv := [(6, 5)], ld := [], lst := [], obj := [], q := [], raw := [] }
noncomputable def slices_Equal_api_Change_api_Change.an : Ann := .mk none .nil (.mk none .nil (.mk none (.mk none .nil (.mk none (.mk none (.mk (some [(0, 0), (1, 0), (12, 0), (13, 0)]) .nil .nil) .nil) .nil)) .nil))
noncomputable abbrev slices_Equal_api_Change_api_Change.c : Code := Tryz.f52.body.getD .skip
noncomputable def slices_Equal_api_Change_api_Change.J (call : Cl) (n : Nat) : Jn (AEnd × H) := realJ Tryz.prog slices_Equal_api_Change_api_Change.A call Tryz.f52 slices_Equal_api_Change_api_Change.an slices_Equal_api_Change_api_Change.c n
abbrev slices_Equal_api_Change_api_Change.F (call : Cl) (n : Nat) (J : Jn (AEnd × H)) : Prop := JFix Tryz.prog slices_Equal_api_Change_api_Change.A call Tryz.f52 slices_Equal_api_Change_api_Change.an slices_Equal_api_Change_api_Change.c n J
def slices_Equal_api_Change_api_Change.f (J : Jn (AEnd × H)) (x0 x1 : AV) (h : H) : Option (AEnd × H) := J [] [] ⟨[(0, x0), (1, x1)], [], [], h⟩
def slices_Equal_api_Change_api_Change.l0 (J : Jn (AEnd × H)) (m0 : Nat) (x0 x1 x12 x13 : AV) (h : H) : Option (AEnd × H) := J [1, 1, 0, 1, 0] [m0] ⟨[(0, x0), (1, x1), (12, x12), (13, x13)], [(0, 0), (1, 0), (12, 0), (13, 0)], [], h⟩
theorem slices_Equal_api_Change_api_Change.f_eq {call : Cl} {n : Nat} {J : Jn (AEnd × H)} (hJ : slices_Equal_api_Change_api_Change.F call n J) (x0 x1 : AV) (h : H) : slices_Equal_api_Change_api_Change.f J x0 x1 h =
  (lnSl x0).bind fun v1 =>
  (lnSl x1).bind fun v2 =>
  (bin .neq v1 v2).bind fun v3 =>
  condV v3 (
    some (AEnd.ret (.bool false), h)) (
    (lnSl x0).bind fun v4 =>
    slices_Equal_api_Change_api_Change.l0 J n x0 x1 v4 (.int .i64 0) h) := (hJ _ _ _ (by kernel_rfl)).trans (by kernel_rfl)
theorem slices_Equal_api_Change_api_Change.l0_eq {call : Cl} {n : Nat} {J : Jn (AEnd × H)} (hJ : slices_Equal_api_Change_api_Change.F call n J) (m0 : Nat) (x0 x1 x12 x13 : AV) (h : H) : slices_Equal_api_Change_api_Change.l0 J (m0 + 1) x0 x1 x12 x13 h =
  (bin .lss x13 x12).bind fun v5 =>
  condV v5 (
    (ixSlice 11 x0 x13).bind fun v6 =>
    (ldAgg 11 h v6).bind fun v7 =>
    (ixSlice 11 x1 x13).bind fun v8 =>
    (ldAgg 11 h v8).bind fun v9 =>
    (eqv true (aeq Tryz.prog 20 t_api_Change v7 v9)).bind fun v10 =>
    condV v10 (
      some (AEnd.ret (.bool false), h)) (
      (bin .add x13 (.int .i64 1)).bind fun v11 =>
      slices_Equal_api_Change_api_Change.l0 J m0 x0 x1 x12 v11 h)) (
    some (AEnd.ret (.bool true), h)) := (hJ _ _ _ (by kernel_rfl)).trans (by kernel_rfl)
noncomputable def rec_batch.A : FAnn := { nv := 2, mv := [(1, 9)], ld := [], lst := [], obj := [], q := [], raw := [] }
noncomputable def rec_batch.an : Ann := .nil
noncomputable abbrev rec_batch.c : Code := Tryz.f53.body.getD .skip
noncomputable def rec_batch.J (call : Cl) (n : Nat) : Jn (AEnd × H) := realJ Tryz.prog rec_batch.A call Tryz.f53 rec_batch.an rec_batch.c n
abbrev rec_batch.F (call : Cl) (n : Nat) (J : Jn (AEnd × H)) : Prop := JFix Tryz.prog rec_batch.A call Tryz.f53 rec_batch.an rec_batch.c n J
def rec_batch.f (J : Jn (AEnd × H)) (x0 : AV) (h : H) : Option (AEnd × H) := J [] [] ⟨[(0, x0)], [], [], h⟩
theorem rec_batch.f_eq {call : Cl} {n : Nat} {J : Jn (AEnd × H)} (hJ : rec_batch.F call n J) (x0 : AV) (h : H) : rec_batch.f J x0 h =
  (lnSl x0).bind fun v1 =>
  (bin .geq v1 (.int .i64 1)).bind fun v2 =>
  condV v2 (
    (lnSl x0).bind fun v3 =>
    (bin .leq v3 (.int .i64 512)).bind fun v4 =>
    condV v4 (
      (call n_slices_ContainsFunc_api_Change_api_Change [AV.canon x0, AV.canon (.func (.func n_rec_batch_c1) [] [])] h).bind fun p5 => retOr p5.1 (fun r6p => some (AEnd.pan r6p, p5.2)) fun r6 =>
      (unOp .not r6).bind fun v7 =>
      some (AEnd.ret (AV.copy v7), p5.2)) (
      some (AEnd.ret (AV.copy (.bool false)), h))) (
    some (AEnd.ret (AV.copy (.bool false)), h)) := (hJ _ _ _ (by kernel_rfl)).trans (by kernel_rfl)
noncomputable def cur_New.A : FAnn := { nv := 1, mv := [], ld := [], lst := [], obj := [], q := [], raw := [] }
noncomputable def cur_New.an : Ann := .nil
noncomputable abbrev cur_New.c : Code := Tryz.f54.body.getD .skip
noncomputable def cur_New.J (call : Cl) (n : Nat) : Jn (AEnd × H) := realJ Tryz.prog cur_New.A call Tryz.f54 cur_New.an cur_New.c n
abbrev cur_New.F (call : Cl) (n : Nat) (J : Jn (AEnd × H)) : Prop := JFix Tryz.prog cur_New.A call Tryz.f54 cur_New.an cur_New.c n J
def cur_New.f (J : Jn (AEnd × H)) (h : H) : Option (AEnd × H) := J [] [] ⟨[], [], [], h⟩
theorem cur_New.f_eq {call : Cl} {n : Nat} {J : Jn (AEnd × H)} (hJ : cur_New.F call n J) (h : H) : cur_New.f J  h =
  (mkAgg [.list [] .cap] []).bind fun v1 =>
  (bx h v1).bind fun p2 =>
  some (AEnd.ret (AV.copy p2.1), p2.2) := (hJ _ _ _ (by kernel_rfl)).trans (by kernel_rfl)
noncomputable def cur_Pen_Text.A : FAnn := { nv := 4, mv := [(1, 0), (1, 1)], ld := [], lst := [], obj := [], q := [], raw := [] }
noncomputable def cur_Pen_Text.an : Ann := .nil
noncomputable abbrev cur_Pen_Text.c : Code := Tryz.f55.body.getD .skip
noncomputable def cur_Pen_Text.J (call : Cl) (n : Nat) : Jn (AEnd × H) := realJ Tryz.prog cur_Pen_Text.A call Tryz.f55 cur_Pen_Text.an cur_Pen_Text.c n
abbrev cur_Pen_Text.F (call : Cl) (n : Nat) (J : Jn (AEnd × H)) : Prop := JFix Tryz.prog cur_Pen_Text.A call Tryz.f55 cur_Pen_Text.an cur_Pen_Text.c n J
def cur_Pen_Text.f (J : Jn (AEnd × H)) (x0 x1 : AV) (h : H) : Option (AEnd × H) := J [] [] ⟨[(0, x0), (1, x1)], [], [], h⟩
theorem cur_Pen_Text.f_eq {call : Cl} {n : Nat} {J : Jn (AEnd × H)} (hJ : cur_Pen_Text.F call n J) (x0 x1 : AV) (h : H) : cur_Pen_Text.f J x0 x1 h =
  (lnStr x1).bind fun v1 =>
  (cvInt .u64 v1).bind fun v2 =>
  (call n_cur_Pen_U [AV.canon x0, AV.canon v2] h).bind fun p3 => retOr p3.1 (fun r4p => some (AEnd.pan r4p, p3.2)) fun r4 =>
  (strBytes x1).bind fun v5 =>
  (call n_cur_Pen_put [AV.canon x0, AV.canon v5] p3.2).bind fun p6 => retOr p6.1 (fun r7p => some (AEnd.pan r7p, p6.2)) fun r7 =>
  some (AEnd.ret (.tuple []), p6.2) := (hJ _ _ _ (by kernel_rfl)).trans (by kernel_rfl)
noncomputable def rec_body.A : FAnn := { nv := 8, mv := [(3, 0), (12, 0)], ld := [], lst := [], obj := [], q := [], raw := [] }
noncomputable def rec_body.an : Ann := .mk none .nil (.mk none .nil (.mk none .nil (.mk none (.mk none .nil (.mk none (.mk none (.mk (some [(3, 0), (16, 0), (17, 0), (18, 0)]) .nil (.mk none .nil (.mk none (.mk none (.mk none .nil (.mk none .nil (.mk none .nil (.mk none .nil (.mk none .nil (.mk none (.mk none (.mk (some [(3, 0), (5, 0), (16, 0), (17, 0), (18, 0), (47, 0), (48, 0), (49, 0)]) .nil .nil) .nil) .nil)))))) .nil) .nil))) .nil) .nil)) .nil)))
noncomputable abbrev rec_body.c : Code := Tryz.f56.body.getD .skip
noncomputable def rec_body.J (call : Cl) (n : Nat) : Jn (AEnd × H) := realJ Tryz.prog rec_body.A call Tryz.f56 rec_body.an rec_body.c n
abbrev rec_body.F (call : Cl) (n : Nat) (J : Jn (AEnd × H)) : Prop := JFix Tryz.prog rec_body.A call Tryz.f56 rec_body.an rec_body.c n J
def rec_body.f (J : Jn (AEnd × H)) (x0 : AV) (h : H) : Option (AEnd × H) := J [] [] ⟨[(0, x0)], [], [], h⟩
def rec_body.l0 (J : Jn (AEnd × H)) (m0 : Nat) (x3 x16 x17 x18 : AV) (h : H) : Option (AEnd × H) := J [1, 1, 1, 0, 1, 0] [m0] ⟨[(3, x3), (16, x16), (17, x17), (18, x18)], [(3, 0), (16, 0), (17, 0), (18, 0)], [], h⟩
def rec_body.l1 (J : Jn (AEnd × H)) (m0 m1 : Nat) (x3 x5 x16 x17 x18 x47 x48 x49 : AV) (h : H) : Option (AEnd × H) := J [1, 1, 1, 0, 1, 0, 0, 1, 1, 0, 0, 1, 1, 1, 1, 1, 0] [m0, m1] ⟨[(3, x3), (5, x5), (16, x16), (17, x17), (18, x18), (47, x47), (48, x48), (49, x49)], [(3, 0), (5, 0), (16, 0), (17, 0), (18, 0), (47, 0), (48, 0), (49, 0)], [], h⟩
theorem rec_body.f_eq {call : Cl} {n : Nat} {J : Jn (AEnd × H)} (hJ : rec_body.F call n J) (x0 : AV) (h : H) : rec_body.f J x0 h =
  (call n_cur_New [] h).bind fun p1 => retOr p1.1 (fun r2p => some (AEnd.pan r2p, p1.2)) fun r2 =>
  (mkAgg [.nilPtr] [(0, 1, AV.copy r2)]).bind fun v3 =>
  let h4 : H := p1.2 ++ [.arr [.nilPtr] false]
  (stN 1 h4 (.ptr p1.2.length 0) v3).bind fun p5 =>
  (fAddr 0 (.ptr p1.2.length 0)).bind fun v6 =>
  (ldCell p5.2 v6).bind fun v7 =>
  (lnSl x0).bind fun v8 =>
  (cvInt .u64 v8).bind fun v9 =>
  (call n_cur_Pen_U [AV.canon v7, AV.canon v9] p5.2).bind fun p10 => retOr p10.1 (fun r11p => some (AEnd.pan r11p, p10.2)) fun r11 =>
  (lnSl x0).bind fun v12 =>
  rec_body.l0 J n (.ptr p1.2.length 0) x0 v12 (.int .i64 0) p10.2 := (hJ _ _ _ (by kernel_rfl)).trans (by kernel_rfl)
theorem rec_body.l0_eq {call : Cl} {n : Nat} {J : Jn (AEnd × H)} (hJ : rec_body.F call n J) (m0 : Nat) (x3 x16 x17 x18 : AV) (h : H) : rec_body.l0 J (m0 + 1) x3 x16 x17 x18 h =
  (bin .lss x18 x17).bind fun v13 =>
  condV v13 (
    (ixSlice 11 x16 x18).bind fun v14 =>
    (ldAgg 11 h v14).bind fun v15 =>
    let h16 : H := h ++ [.arr [.int .i64 0, .int .u64 0, .int .i64 0, .int .i64 0, .str [], .str [], .int .i64 0, .str [], .int .i64 0, .int .i64 0, .str []] false]
    (stN 11 h16 (.ptr h.length 0) (AV.copy v15)).bind fun p17 =>
    (fAddr 0 x3).bind fun v18 =>
    (ldCell p17.2 v18).bind fun v19 =>
    (fAddr 0 (.ptr h.length 0)).bind fun v20 =>
    (ldCell p17.2 v20).bind fun v21 =>
    (cvInt .u64 v21).bind fun v22 =>
    (call n_cur_Pen_U [AV.canon v19, AV.canon v22] p17.2).bind fun p23 => retOr p23.1 (fun r24p => some (AEnd.pan r24p, p23.2)) fun r24 =>
    (fAddr 0 x3).bind fun v25 =>
    (ldCell p23.2 v25).bind fun v26 =>
    (fAddr 1 (.ptr h.length 0)).bind fun v27 =>
    (fAddr 0 v27).bind fun v28 =>
    (ldCell p23.2 v28).bind fun v29 =>
    (cvInt .u32 v29).bind fun v30 =>
    (call n_cur_Pen_Word [AV.canon v26, AV.canon v30] p23.2).bind fun p31 => retOr p31.1 (fun r32p => some (AEnd.pan r32p, p31.2)) fun r32 =>
    (fAddr 0 x3).bind fun v33 =>
    (ldCell p31.2 v33).bind fun v34 =>
    (fAddr 1 (.ptr h.length 0)).bind fun v35 =>
    (fAddr 0 v35).bind fun v36 =>
    (ldCell p31.2 v36).bind fun v37 =>
    (bin .shr v37 (.int .u64 32)).bind fun v38 =>
    (cvInt .u32 v38).bind fun v39 =>
    (call n_cur_Pen_Word [AV.canon v34, AV.canon v39] p31.2).bind fun p40 => retOr p40.1 (fun r41p => some (AEnd.pan r41p, p40.2)) fun r41 =>
    (call n_rec_kinds [] p40.2).bind fun p42 => retOr p42.1 (fun _ => none) fun r43 =>
    (fAddr 0 (.ptr h.length 0)).bind fun v44 =>
    (ldCell p42.2 v44).bind fun v45 =>
    whenB (eqO (ldCell p40.2 v44) v45) (
      (lkMap .int (.agg [.list [] .cap, .list [] .cap, .nilFunc]) p42.2 r43 v45 false).bind fun v46 =>
      (fCell 0 v46).bind fun v47 =>
      (lnSl v47).bind fun v48 =>
      rec_body.l1 J m0 n x3 (.ptr h.length 0) x16 x17 x18 v47 v48 (.int .i64 0) p42.2)) (
    (fAddr 0 x3).bind fun v49 =>
    (ldCell h v49).bind fun v50 =>
    (call n_cur_Pen_Bytes [AV.canon v50] h).bind fun p51 => retOr p51.1 (fun r52p => some (AEnd.pan r52p, p51.2)) fun r52 =>
    some (AEnd.ret r52, p51.2)) := (hJ _ _ _ (by kernel_rfl)).trans (by kernel_rfl)
theorem rec_body.l1_eq {call : Cl} {n : Nat} {J : Jn (AEnd × H)} (hJ : rec_body.F call n J) (m0 m1 : Nat) (x3 x5 x16 x17 x18 x47 x48 x49 : AV) (h : H) : rec_body.l1 J m0 (m1 + 1) x3 x5 x16 x17 x18 x47 x48 x49 h =
  (bin .lss x49 x48).bind fun v53 =>
  condV v53 (
    (ixSlice 1 x47 x49).bind fun v54 =>
    (ldCell h v54).bind fun v55 =>
    (ldAgg 1 h x3).bind fun v56 =>
    (fAddr 1 x5).bind fun v57 =>
    (ldAgg 10 h v57).bind fun v58 =>
    (callVal call h v55 [AV.canon v56, AV.canon v58]).bind fun p59 => retOr p59.1 (fun r60p => some (AEnd.pan r60p, p59.2)) fun r60 =>
    (bin .add x49 (.int .i64 1)).bind fun v61 =>
    rec_body.l1 J m0 m1 x3 x5 x16 x17 x18 x47 x48 v61 p59.2) (
    (bin .add x18 (.int .i64 1)).bind fun v62 =>
    rec_body.l0 J m0 x3 x16 x17 v62 h) := (hJ _ _ _ (by kernel_rfl)).trans (by kernel_rfl)
noncomputable def cur_Pen_Word.A : FAnn := { nv := 4, mv := [(0, 0), (0, 9)], ld := [], lst := [], obj := [], q := [], raw := [] }
noncomputable def cur_Pen_Word.an : Ann := .nil
noncomputable abbrev cur_Pen_Word.c : Code := Tryz.f57.body.getD .skip
noncomputable def cur_Pen_Word.J (call : Cl) (n : Nat) : Jn (AEnd × H) := realJ Tryz.prog cur_Pen_Word.A call Tryz.f57 cur_Pen_Word.an cur_Pen_Word.c n
abbrev cur_Pen_Word.F (call : Cl) (n : Nat) (J : Jn (AEnd × H)) : Prop := JFix Tryz.prog cur_Pen_Word.A call Tryz.f57 cur_Pen_Word.an cur_Pen_Word.c n J
def cur_Pen_Word.f (J : Jn (AEnd × H)) (x0 x1 : AV) (h : H) : Option (AEnd × H) := J [] [] ⟨[(0, x0), (1, x1)], [], [], h⟩
theorem cur_Pen_Word.f_eq {call : Cl} {n : Nat} {J : Jn (AEnd × H)} (hJ : cur_Pen_Word.F call n J) (x0 x1 : AV) (h : H) : cur_Pen_Word.f J x0 x1 h =
  (cvInt .u8 x1).bind fun v1 =>
  (bin .shr x1 (.int .u64 8)).bind fun v2 =>
  (cvInt .u8 v2).bind fun v3 =>
  (bin .shr x1 (.int .u64 16)).bind fun v4 =>
  (cvInt .u8 v4).bind fun v5 =>
  (bin .shr x1 (.int .u64 24)).bind fun v6 =>
  (cvInt .u8 v6).bind fun v7 =>
  (mkRows 1 [.int .u8 0] 4 [(0, v1), (1, v3), (2, v5), (3, v7)]).bind fun v8 =>
  (call n_cur_Pen_put [AV.canon x0, AV.canon v8] h).bind fun p9 => retOr p9.1 (fun r10p => some (AEnd.pan r10p, p9.2)) fun r10 =>
  some (AEnd.ret (.tuple []), p9.2) := (hJ _ _ _ (by kernel_rfl)).trans (by kernel_rfl)
noncomputable def crc_Sum.A : FAnn := { nv := 2, mv := [(1, 0)], ld := [], lst := [], obj := [], q := [], raw := [] }
noncomputable def crc_Sum.an : Ann := .nil
noncomputable abbrev crc_Sum.c : Code := Tryz.f58.body.getD .skip
noncomputable def crc_Sum.J (call : Cl) (n : Nat) : Jn (AEnd × H) := realJ Tryz.prog crc_Sum.A call Tryz.f58 crc_Sum.an crc_Sum.c n
abbrev crc_Sum.F (call : Cl) (n : Nat) (J : Jn (AEnd × H)) : Prop := JFix Tryz.prog crc_Sum.A call Tryz.f58 crc_Sum.an crc_Sum.c n J
def crc_Sum.f (J : Jn (AEnd × H)) (x0 : AV) (h : H) : Option (AEnd × H) := J [] [] ⟨[(0, x0)], [], [], h⟩
theorem crc_Sum.f_eq {call : Cl} {n : Nat} {J : Jn (AEnd × H)} (hJ : crc_Sum.F call n J) (x0 : AV) (h : H) : crc_Sum.f J x0 h =
  (call n_crc_More [AV.canon (.int .u32 0), AV.canon x0] h).bind fun p1 => retOr p1.1 (fun r2p => some (AEnd.pan r2p, p1.2)) fun r2 =>
  some (AEnd.ret r2, p1.2) := (hJ _ _ _ (by kernel_rfl)).trans (by kernel_rfl)
noncomputable def cur_Pen_Bytes.A : FAnn := { nv := 2, mv := [(3, 0)], ld := [], lst := [], obj := [], q := [], raw := [] }
noncomputable def cur_Pen_Bytes.an : Ann := .nil
noncomputable abbrev cur_Pen_Bytes.c : Code := Tryz.f59.body.getD .skip
noncomputable def cur_Pen_Bytes.J (call : Cl) (n : Nat) : Jn (AEnd × H) := realJ Tryz.prog cur_Pen_Bytes.A call Tryz.f59 cur_Pen_Bytes.an cur_Pen_Bytes.c n
abbrev cur_Pen_Bytes.F (call : Cl) (n : Nat) (J : Jn (AEnd × H)) : Prop := JFix Tryz.prog cur_Pen_Bytes.A call Tryz.f59 cur_Pen_Bytes.an cur_Pen_Bytes.c n J
def cur_Pen_Bytes.f (J : Jn (AEnd × H)) (x0 : AV) (h : H) : Option (AEnd × H) := J [] [] ⟨[(0, x0)], [], [], h⟩
theorem cur_Pen_Bytes.f_eq {call : Cl} {n : Nat} {J : Jn (AEnd × H)} (hJ : cur_Pen_Bytes.F call n J) (x0 : AV) (h : H) : cur_Pen_Bytes.f J x0 h =
  (eqv false (aeq Tryz.prog 20 84 x0 .nilPtr)).bind fun v1 =>
  condV v1 (
    some (AEnd.ret (.list [] .cap), h)) (
    (nilOk x0).bind fun v2 =>
    (fAddr 0 v2).bind fun v3 =>
    (ldCell h v3).bind fun v4 =>
    (call n_slices_Clone_byte_byte [AV.canon v4] h).bind fun p5 => retOr p5.1 (fun r6p => some (AEnd.pan r6p, p5.2)) fun r6 =>
    some (AEnd.ret r6, p5.2)) := (hJ _ _ _ (by kernel_rfl)).trans (by kernel_rfl)
noncomputable def cur_From.A : FAnn := { nv := 2, mv := [(1, 0)], ld := [], lst := [], obj := [], q := [], raw := [] }
noncomputable def cur_From.an : Ann := .nil
noncomputable abbrev cur_From.c : Code := Tryz.f60.body.getD .skip
noncomputable def cur_From.J (call : Cl) (n : Nat) : Jn (AEnd × H) := realJ Tryz.prog cur_From.A call Tryz.f60 cur_From.an cur_From.c n
abbrev cur_From.F (call : Cl) (n : Nat) (J : Jn (AEnd × H)) : Prop := JFix Tryz.prog cur_From.A call Tryz.f60 cur_From.an cur_From.c n J
def cur_From.f (J : Jn (AEnd × H)) (x0 : AV) (h : H) : Option (AEnd × H) := J [] [] ⟨[(0, x0)], [], [], h⟩
theorem cur_From.f_eq {call : Cl} {n : Nat} {J : Jn (AEnd × H)} (hJ : cur_From.F call n J) (x0 : AV) (h : H) : cur_From.f J x0 h =
  (call n_slices_Clone_byte_byte [AV.canon x0] h).bind fun p1 => retOr p1.1 (fun r2p => some (AEnd.pan r2p, p1.2)) fun r2 =>
  (mkAgg [.list [] .cap, .int .i64 0, .int .i64 0] [(0, 1, AV.copy r2)]).bind fun v3 =>
  (bx p1.2 v3).bind fun p4 =>
  some (AEnd.ret (AV.copy p4.1), p4.2) := (hJ _ _ _ (by kernel_rfl)).trans (by kernel_rfl)
noncomputable def cur_Reader_Text.A : FAnn := { nv := 4, mv := [(1, 0)], ld := [], lst := [], obj := [], q := [], raw := [] }
noncomputable def cur_Reader_Text.an : Ann := .nil
noncomputable abbrev cur_Reader_Text.c : Code := Tryz.f61.body.getD .skip
noncomputable def cur_Reader_Text.J (call : Cl) (n : Nat) : Jn (AEnd × H) := realJ Tryz.prog cur_Reader_Text.A call Tryz.f61 cur_Reader_Text.an cur_Reader_Text.c n
abbrev cur_Reader_Text.F (call : Cl) (n : Nat) (J : Jn (AEnd × H)) : Prop := JFix Tryz.prog cur_Reader_Text.A call Tryz.f61 cur_Reader_Text.an cur_Reader_Text.c n J
def cur_Reader_Text.f (J : Jn (AEnd × H)) (x0 x1 : AV) (h : H) : Option (AEnd × H) := J [] [] ⟨[(0, x0), (1, x1)], [], [], h⟩
theorem cur_Reader_Text.f_eq {call : Cl} {n : Nat} {J : Jn (AEnd × H)} (hJ : cur_Reader_Text.F call n J) (x0 x1 : AV) (h : H) : cur_Reader_Text.f J x0 x1 h =
  (bx h (AV.copy x1)).bind fun p1 =>
  (call n_cur_ask_string [AV.canon x0, AV.canon (.func (.func n_cur_Reader_Text_c1) [] [AV.copy p1.1])] p1.2).bind fun p2 => retOr p2.1 (fun r3p => some (AEnd.pan r3p, p2.2)) fun r3 =>
  some (AEnd.ret r3, p2.2) := (hJ _ _ _ (by kernel_rfl)).trans (by kernel_rfl)
noncomputable def cur_Reader_At.A : FAnn := { nv := 2, mv := [(3, 0)], ld := [], lst := [], obj := [], q := [], raw := [] }
noncomputable def cur_Reader_At.an : Ann := .nil
noncomputable abbrev cur_Reader_At.c : Code := Tryz.f62.body.getD .skip
noncomputable def cur_Reader_At.J (call : Cl) (n : Nat) : Jn (AEnd × H) := realJ Tryz.prog cur_Reader_At.A call Tryz.f62 cur_Reader_At.an cur_Reader_At.c n
abbrev cur_Reader_At.F (call : Cl) (n : Nat) (J : Jn (AEnd × H)) : Prop := JFix Tryz.prog cur_Reader_At.A call Tryz.f62 cur_Reader_At.an cur_Reader_At.c n J
def cur_Reader_At.f (J : Jn (AEnd × H)) (x0 : AV) (h : H) : Option (AEnd × H) := J [] [] ⟨[(0, x0)], [], [], h⟩
theorem cur_Reader_At.f_eq {call : Cl} {n : Nat} {J : Jn (AEnd × H)} (hJ : cur_Reader_At.F call n J) (x0 : AV) (h : H) : cur_Reader_At.f J x0 h =
  (eqv false (aeq Tryz.prog 20 90 x0 .nilPtr)).bind fun v1 =>
  condV v1 (
    some (AEnd.ret (.int .i64 0), h)) (
    (nilOk x0).bind fun v2 =>
    (fAddr 1 v2).bind fun v3 =>
    (ldCell h v3).bind fun v4 =>
    some (AEnd.ret (AV.copy v4), h)) := (hJ _ _ _ (by kernel_rfl)).trans (by kernel_rfl)
noncomputable def cur_Reader_Word.A : FAnn := { nv := 2, mv := [(1, 0)], ld := [], lst := [], obj := [], q := [], raw := [] }
noncomputable def cur_Reader_Word.an : Ann := .nil
noncomputable abbrev cur_Reader_Word.c : Code := Tryz.f63.body.getD .skip
noncomputable def cur_Reader_Word.J (call : Cl) (n : Nat) : Jn (AEnd × H) := realJ Tryz.prog cur_Reader_Word.A call Tryz.f63 cur_Reader_Word.an cur_Reader_Word.c n
abbrev cur_Reader_Word.F (call : Cl) (n : Nat) (J : Jn (AEnd × H)) : Prop := JFix Tryz.prog cur_Reader_Word.A call Tryz.f63 cur_Reader_Word.an cur_Reader_Word.c n J
def cur_Reader_Word.f (J : Jn (AEnd × H)) (x0 : AV) (h : H) : Option (AEnd × H) := J [] [] ⟨[(0, x0)], [], [], h⟩
theorem cur_Reader_Word.f_eq {call : Cl} {n : Nat} {J : Jn (AEnd × H)} (hJ : cur_Reader_Word.F call n J) (x0 : AV) (h : H) : cur_Reader_Word.f J x0 h =
  (call n_cur_ask_uint32 [AV.canon x0, AV.canon (.func (.func n_cur_Reader_word) [] [])] h).bind fun p1 => retOr p1.1 (fun r2p => some (AEnd.pan r2p, p1.2)) fun r2 =>
  some (AEnd.ret r2, p1.2) := (hJ _ _ _ (by kernel_rfl)).trans (by kernel_rfl)
noncomputable def cur_Reader_Err.A : FAnn := { nv := 2, mv := [(3, 0)], ld := [], lst := [], obj := [], q := [], raw := [] }
noncomputable def cur_Reader_Err.an : Ann := .nil
noncomputable abbrev cur_Reader_Err.c : Code := Tryz.f64.body.getD .skip
noncomputable def cur_Reader_Err.J (call : Cl) (n : Nat) : Jn (AEnd × H) := realJ Tryz.prog cur_Reader_Err.A call Tryz.f64 cur_Reader_Err.an cur_Reader_Err.c n
abbrev cur_Reader_Err.F (call : Cl) (n : Nat) (J : Jn (AEnd × H)) : Prop := JFix Tryz.prog cur_Reader_Err.A call Tryz.f64 cur_Reader_Err.an cur_Reader_Err.c n J
def cur_Reader_Err.f (J : Jn (AEnd × H)) (x0 : AV) (h : H) : Option (AEnd × H) := J [] [] ⟨[(0, x0)], [], [], h⟩
theorem cur_Reader_Err.f_eq {call : Cl} {n : Nat} {J : Jn (AEnd × H)} (hJ : cur_Reader_Err.F call n J) (x0 : AV) (h : H) : cur_Reader_Err.f J x0 h =
  (eqv false (aeq Tryz.prog 20 90 x0 .nilPtr)).bind fun v1 =>
  condV v1 (
    some (AEnd.ret (.int .i64 6), h)) (
    (nilOk x0).bind fun v2 =>
    (fAddr 2 v2).bind fun v3 =>
    (ldCell h v3).bind fun v4 =>
    some (AEnd.ret (AV.copy v4), h)) := (hJ _ _ _ (by kernel_rfl)).trans (by kernel_rfl)
noncomputable def crc_Whole.A : FAnn := { nv := 4, mv := [(1, 0), (1, 2)], ld := [], lst := [], obj := [], q := [], raw := [] }
noncomputable def crc_Whole.an : Ann := .nil
noncomputable abbrev crc_Whole.c : Code := Tryz.f65.body.getD .skip
noncomputable def crc_Whole.J (call : Cl) (n : Nat) : Jn (AEnd × H) := realJ Tryz.prog crc_Whole.A call Tryz.f65 crc_Whole.an crc_Whole.c n
abbrev crc_Whole.F (call : Cl) (n : Nat) (J : Jn (AEnd × H)) : Prop := JFix Tryz.prog crc_Whole.A call Tryz.f65 crc_Whole.an crc_Whole.c n J
def crc_Whole.f (J : Jn (AEnd × H)) (x0 x1 : AV) (h : H) : Option (AEnd × H) := J [] [] ⟨[(0, x0), (1, x1)], [], [], h⟩
theorem crc_Whole.f_eq {call : Cl} {n : Nat} {J : Jn (AEnd × H)} (hJ : crc_Whole.F call n J) (x0 x1 : AV) (h : H) : crc_Whole.f J x0 x1 h =
  (call n_crc_Sum [AV.canon x0] h).bind fun p1 => retOr p1.1 (fun r2p => some (AEnd.pan r2p, p1.2)) fun r2 =>
  (bin .eql r2 x1).bind fun v3 =>
  some (AEnd.ret (AV.copy v3), p1.2) := (hJ _ _ _ (by kernel_rfl)).trans (by kernel_rfl)
noncomputable def rec_read.A : FAnn := { nv := 4, mv := [(2, 0)], ld := [], lst := [], obj := [], q := [], raw := [], df := [(113, { nv := 4, mv := [(1, 0)], ld := [], raw := [] })] }
noncomputable def rec_read.an : Ann := .nil
noncomputable abbrev rec_read.c : Code := Tryz.f66.body.getD .skip
noncomputable abbrev rec_read.dc (call : Cl) (n : Nat) := dcall Tryz.prog rec_read.A call n
theorem rec_read.d113_eq {call : Cl} {n : Nat} (x0 x1 : AV) (h : H) (v : AV) : rec_read.dc call n n_rec_read_c1 [x0, x1] h v =
  (taTo (.agg []) t_rec_broken true v).bind fun v1 =>
  (exTuple 0 v1).bind fun v2 =>
  (exTuple 1 v1).bind fun v3 =>
  let h4 : H := h ++ [.arr [] false]
  (stN 0 h4 (.ptr h.length 0) (AV.copy v2)).bind fun p5 =>
  condV v3 (
    (stN 1 p5.2 x0 (.list [] .cap)).bind fun p6 =>
    (stN 1 p6.2 x1 (.bool false)).bind fun p7 =>
    some p7.2) (
    some p5.2) := (dcall_eq (P := Tryz.prog) (A := rec_read.A) (f := 113) (d := { nv := 4, mv := [(1, 0)], ld := [], raw := [] }) (c := Tryz.f113.body.getD .skip) (args := [x0, x1]) (by kernel_rfl) Tryz.func113 (by kernel_rfl) (by kernel_rfl)).trans (by kernel_rfl)
noncomputable def rec_read.J (call : Cl) (n : Nat) : Jn (AEnd × H) := realJ Tryz.prog rec_read.A call Tryz.f66 rec_read.an rec_read.c n
abbrev rec_read.F (call : Cl) (n : Nat) (J : Jn (AEnd × H)) : Prop := JFix Tryz.prog rec_read.A call Tryz.f66 rec_read.an rec_read.c n J
def rec_read.f (J : Jn (AEnd × H)) (x0 : AV) (h : H) : Option (AEnd × H) := J [] [] ⟨[(0, x0)], [], [], h⟩
theorem rec_read.f_eq {call : Cl} {n : Nat} {J : Jn (AEnd × H)} (hJ : rec_read.F call n J) (x0 : AV) (h : H) : rec_read.f J x0 h =
  let h1 : H := h ++ [.arr [.list [] .cap] false]
  let h2 : H := h1 ++ [.arr [.bool false] false]
  (call n_rec_changes [AV.canon x0] h2).bind fun p3 => retOr p3.1 (fun r4p => (rec_read.dc call n n_rec_read_c1 [AV.copy (.ptr h.length 0), AV.copy (.ptr h1.length 0)] p3.2 r4p).bind fun h8 =>
  (resN [(ldCell h8 (.ptr h.length 0)).map AV.copy, (ldCell h8 (.ptr h1.length 0)).map AV.copy]).map fun v => (AEnd.ret v, h8)) fun r4 =>
  (stN 1 p3.2 (.ptr h.length 0) r4).bind fun p5 =>
  (stN 1 p5.2 (.ptr h1.length 0) (.bool true)).bind fun p6 =>
  (rec_read.dc call n n_rec_read_c1 [AV.copy (.ptr h.length 0), AV.copy (.ptr h1.length 0)] p6.2 .nilIface).bind fun h7 =>
  (resN [(ldCell h7 (.ptr h.length 0)).map AV.copy, (ldCell h7 (.ptr h1.length 0)).map AV.copy]).map fun v => (AEnd.ret v, h7) := (hJ _ _ _ (by kernel_rfl)).trans (by kernel_rfl)
noncomputable def ref27_Open.A : FAnn := { nv := 9, mv := [(6, 0), (7, 0), (7, 1), (7, 4), (9, 0), (9, 2)], ld := [], lst := [], obj := [], q := [], raw := [] }
noncomputable def ref27_Open.an : Ann := .nil
noncomputable abbrev ref27_Open.c : Code := Tryz.f67.body.getD .skip
noncomputable def ref27_Open.J (call : Cl) (n : Nat) : Jn (AEnd × H) := realJ Tryz.prog ref27_Open.A call Tryz.f67 ref27_Open.an ref27_Open.c n
abbrev ref27_Open.F (call : Cl) (n : Nat) (J : Jn (AEnd × H)) : Prop := JFix Tryz.prog ref27_Open.A call Tryz.f67 ref27_Open.an ref27_Open.c n J
def ref27_Open.f (J : Jn (AEnd × H)) (x0 : AV) (h : H) : Option (AEnd × H) := J [] [] ⟨[(0, x0)], [], [], h⟩
theorem ref27_Open.f_eq {call : Cl} {n : Nat} {J : Jn (AEnd × H)} (hJ : ref27_Open.F call n J) (x0 : AV) (h : H) : ref27_Open.f J x0 h =
  (mkRows 1 [.int .u8 0] 0 []).bind fun v1 =>
  (apSlice 1 1 true false h v1 x0).bind fun v2 =>
  (mkAgg [.list [] .cap, .int .i64 0, .int .i64 0] [(0, 1, AV.copy v2)]).bind fun v3 =>
  (bx h v3).bind fun p4 =>
  (call n_warrantorref02_Reader_Text [AV.canon p4.1, AV.canon (.int .i64 1048576)] p4.2).bind fun p5 => retOr p5.1 (fun r6p => some (AEnd.pan r6p, p5.2)) fun r6 =>
  (nilOk p4.1).bind fun v7 =>
  (fAddr 1 v7).bind fun v8 =>
  (ldCell p5.2 v8).bind fun v9 =>
  (call n_warrantorref02_Reader_Word [AV.canon p4.1] p5.2).bind fun p10 => retOr p10.1 (fun r11p => some (AEnd.pan r11p, p10.2)) fun r11 =>
  (nilOk p4.1).bind fun v12 =>
  (fAddr 2 v12).bind fun v13 =>
  (ldCell p10.2 v13).bind fun v14 =>
  (bin .neq v14 (.int .i64 0)).bind fun v15 =>
  condV v15 (
    (nilOk p4.1).bind fun v16 =>
    (fAddr 2 v16).bind fun v17 =>
    (ldCell p10.2 v17).bind fun v18 =>
    some (AEnd.ret (.tuple [(.list [] .cap), (.int .i64 0), (AV.copy v18)]), p10.2)) (
    (slSlice 1 x0 none (some v9) none).bind fun v19 =>
    (call n_warrantorref03_Sum [AV.canon v19] p10.2).bind fun p20 => retOr p20.1 (fun r21p => some (AEnd.pan r21p, p20.2)) fun r21 =>
    (bin .neq r21 r11).bind fun v22 =>
    condV v22 (
      some (AEnd.ret (.tuple [(.list [] .cap), (.int .i64 0), (.int .i64 42)]), p20.2)) (
      (strBytes r6).bind fun v23 =>
      (nilOk p4.1).bind fun v24 =>
      (fAddr 1 v24).bind fun v25 =>
      (ldCell p20.2 v25).bind fun v26 =>
      some (AEnd.ret (.tuple [v23, (AV.copy v26), (.int .i64 0)]), p20.2))) := (hJ _ _ _ (by kernel_rfl)).trans (by kernel_rfl)
noncomputable def ref02_Text.A : FAnn := { nv := 2, mv := [(1, 4)], ld := [], lst := [], obj := [], q := [], raw := [] }
noncomputable def ref02_Text.an : Ann := .nil
noncomputable abbrev ref02_Text.c : Code := Tryz.f68.body.getD .skip
noncomputable def ref02_Text.J (call : Cl) (n : Nat) : Jn (AEnd × H) := realJ Tryz.prog ref02_Text.A call Tryz.f68 ref02_Text.an ref02_Text.c n
abbrev ref02_Text.F (call : Cl) (n : Nat) (J : Jn (AEnd × H)) : Prop := JFix Tryz.prog ref02_Text.A call Tryz.f68 ref02_Text.an ref02_Text.c n J
def ref02_Text.f (J : Jn (AEnd × H)) (x0 : AV) (h : H) : Option (AEnd × H) := J [] [] ⟨[(0, x0)], [], [], h⟩
theorem ref02_Text.f_eq {call : Cl} {n : Nat} {J : Jn (AEnd × H)} (hJ : ref02_Text.F call n J) (x0 : AV) (h : H) : ref02_Text.f J x0 h =
  (lnStr x0).bind fun v1 =>
  (cvInt .u64 v1).bind fun v2 =>
  (call n_warrantorref01_Put [AV.canon v2] h).bind fun p3 => retOr p3.1 (fun r4p => some (AEnd.pan r4p, p3.2)) fun r4 =>
  (strBytes x0).bind fun v5 =>
  (apSlice 1 1 true true p3.2 r4 v5).bind fun v6 =>
  some (AEnd.ret v6, p3.2) := (hJ _ _ _ (by kernel_rfl)).trans (by kernel_rfl)
noncomputable def ref02_Word.A : FAnn := { nv := 2, mv := [(1, 11)], ld := [], lst := [], obj := [], q := [], raw := [] }
noncomputable def ref02_Word.an : Ann := .nil
noncomputable abbrev ref02_Word.c : Code := Tryz.f69.body.getD .skip
noncomputable def ref02_Word.J (call : Cl) (n : Nat) : Jn (AEnd × H) := realJ Tryz.prog ref02_Word.A call Tryz.f69 ref02_Word.an ref02_Word.c n
abbrev ref02_Word.F (call : Cl) (n : Nat) (J : Jn (AEnd × H)) : Prop := JFix Tryz.prog ref02_Word.A call Tryz.f69 ref02_Word.an ref02_Word.c n J
def ref02_Word.f (J : Jn (AEnd × H)) (x0 : AV) (h : H) : Option (AEnd × H) := J [] [] ⟨[(0, x0)], [], [], h⟩
theorem ref02_Word.f_eq {call : Cl} {n : Nat} {J : Jn (AEnd × H)} (hJ : ref02_Word.F call n J) (x0 : AV) (h : H) : ref02_Word.f J x0 h =
  (bin .rem x0 (.int .u32 256)).bind fun v1 =>
  (cvInt .u8 v1).bind fun v2 =>
  (bin .quo x0 (.int .u32 256)).bind fun v3 =>
  (bin .rem v3 (.int .u32 256)).bind fun v4 =>
  (cvInt .u8 v4).bind fun v5 =>
  (bin .quo x0 (.int .u32 65536)).bind fun v6 =>
  (bin .rem v6 (.int .u32 256)).bind fun v7 =>
  (cvInt .u8 v7).bind fun v8 =>
  (bin .quo x0 (.int .u32 16777216)).bind fun v9 =>
  (cvInt .u8 v9).bind fun v10 =>
  (mkRows 1 [.int .u8 0] 4 [(0, v2), (1, v5), (2, v8), (3, v10)]).bind fun v11 =>
  some (AEnd.ret (AV.copy v11), h) := (hJ _ _ _ (by kernel_rfl)).trans (by kernel_rfl)
noncomputable def ref03_Sum.A : FAnn := { nv := 2, mv := [(1, 0)], ld := [], lst := [], obj := [], q := [], raw := [] }
noncomputable def ref03_Sum.an : Ann := .nil
noncomputable abbrev ref03_Sum.c : Code := Tryz.f70.body.getD .skip
noncomputable def ref03_Sum.J (call : Cl) (n : Nat) : Jn (AEnd × H) := realJ Tryz.prog ref03_Sum.A call Tryz.f70 ref03_Sum.an ref03_Sum.c n
abbrev ref03_Sum.F (call : Cl) (n : Nat) (J : Jn (AEnd × H)) : Prop := JFix Tryz.prog ref03_Sum.A call Tryz.f70 ref03_Sum.an ref03_Sum.c n J
def ref03_Sum.f (J : Jn (AEnd × H)) (x0 : AV) (h : H) : Option (AEnd × H) := J [] [] ⟨[(0, x0)], [], [], h⟩
theorem ref03_Sum.f_eq {call : Cl} {n : Nat} {J : Jn (AEnd × H)} (hJ : ref03_Sum.F call n J) (x0 : AV) (h : H) : ref03_Sum.f J x0 h =
  (call n_warrantorref03_More [AV.canon (.int .u32 0), AV.canon x0] h).bind fun p1 => retOr p1.1 (fun r2p => some (AEnd.pan r2p, p1.2)) fun r2 =>
  some (AEnd.ret r2, p1.2) := (hJ _ _ _ (by kernel_rfl)).trans (by kernel_rfl)
noncomputable def ref02_Reader_Count.A : FAnn := { nv := 7, mv := [(5, 4), (6, 1), (7, 0), (9, 0)], ld := [], lst := [], obj := [], q := [], raw := [] }
noncomputable def ref02_Reader_Count.an : Ann := .mk none .nil (.mk none .nil (.mk none .nil (.mk none .nil (.mk none (.mk none .nil (.mk (some [(0, 0), (5, 0), (6, 255), (25, 0)]) .nil .nil)) .nil))))
noncomputable abbrev ref02_Reader_Count.c : Code := Tryz.f71.body.getD .skip
noncomputable def ref02_Reader_Count.J (call : Cl) (n : Nat) : Jn (AEnd × H) := realJ Tryz.prog ref02_Reader_Count.A call Tryz.f71 ref02_Reader_Count.an ref02_Reader_Count.c n
abbrev ref02_Reader_Count.F (call : Cl) (n : Nat) (J : Jn (AEnd × H)) : Prop := JFix Tryz.prog ref02_Reader_Count.A call Tryz.f71 ref02_Reader_Count.an ref02_Reader_Count.c n J
def ref02_Reader_Count.f (J : Jn (AEnd × H)) (x0 x1 : AV) (h : H) : Option (AEnd × H) := J [] [] ⟨[(0, x0), (1, x1)], [], [], h⟩
def ref02_Reader_Count.j0 (J : Jn (AEnd × H)) (x0 x5 x6 x25 : AV) (h : H) : Option (AEnd × H) := J [1, 1, 1, 1, 0, 1] [] ⟨[(0, x0), (5, x5), (6, x6), (25, x25)], [(0, 0), (5, 0), (6, 255), (25, 0)], [], h⟩
theorem ref02_Reader_Count.f_eq {call : Cl} {n : Nat} {J : Jn (AEnd × H)} (hJ : ref02_Reader_Count.F call n J) (x0 x1 : AV) (h : H) : ref02_Reader_Count.f J x0 x1 h =
  (nilOk x0).bind fun v1 =>
  (fAddr 1 v1).bind fun v2 =>
  (ldCell h v2).bind fun v3 =>
  (call n_warrantorref02_Reader_U [AV.canon x0] h).bind fun p4 => retOr p4.1 (fun r5p => some (AEnd.pan r5p, p4.2)) fun r5 =>
  (nilOk x0).bind fun v6 =>
  (fAddr 2 v6).bind fun v7 =>
  (ldCell p4.2 v7).bind fun v8 =>
  (bin .neq v8 (.int .i64 0)).bind fun v9 =>
  condV v9 (
    some (AEnd.ret (.int .i64 0), p4.2)) (
    (bin .lss x1 (.int .i64 0)).bind fun v10 =>
    condV v10 (
      ref02_Reader_Count.j0 J  x0 v3 r5 (.bool true) p4.2) (
      (cvInt .u64 x1).bind fun v11 =>
      (bin .gtr r5 v11).bind fun v12 =>
      ref02_Reader_Count.j0 J  x0 v3 r5 v12 p4.2)) := (hJ _ _ _ (by kernel_rfl)).trans (by kernel_rfl)
theorem ref02_Reader_Count.j0_eq {call : Cl} {n : Nat} {J : Jn (AEnd × H)} (hJ : ref02_Reader_Count.F call n J) (x0 x5 x6 x25 : AV) (h : H) : ref02_Reader_Count.j0 J  x0 x5 x6 x25 h =
  condV x25 (
    (nilOk x0).bind fun v13 =>
    (fAddr 1 v13).bind fun v14 =>
    (stN 1 h v14 (AV.copy x5)).bind fun p15 =>
    (call n_warrantorref02_Reader_Fail [AV.canon x0, AV.canon (.int .i64 3)] p15.2).bind fun p16 => retOr p16.1 (fun r17p => some (AEnd.pan r17p, p16.2)) fun r17 =>
    some (AEnd.ret (.int .i64 0), p16.2)) (
    (cvInt .i64 x6).bind fun v18 =>
    some (AEnd.ret v18, h)) := (hJ _ _ _ (by kernel_rfl)).trans (by kernel_rfl)
noncomputable def ref27_change.A : FAnn := { nv := 5, mv := [(15, 0)], ld := [], lst := [], obj := [], q := [], raw := [] }
noncomputable def ref27_change.an : Ann := .mk none .nil (.mk none .nil (.mk none .nil (.mk none (.mk none .nil (.mk (some [(0, 0), (2, 0), (3, 0), (19, 0)]) .nil .nil)) (.mk (some [(0, 0), (2, 0), (3, 0)]) .nil (.mk (some [(0, 0), (2, 0), (3, 0)]) (.mk none .nil (.mk (some [(0, 0), (2, 0), (3, 0), (59, 0)]) .nil .nil)) .nil)))))
noncomputable abbrev ref27_change.c : Code := Tryz.f72.body.getD .skip
noncomputable def ref27_change.J (call : Cl) (n : Nat) : Jn (AEnd × H) := realJ Tryz.prog ref27_change.A call Tryz.f72 ref27_change.an ref27_change.c n
abbrev ref27_change.F (call : Cl) (n : Nat) (J : Jn (AEnd × H)) : Prop := JFix Tryz.prog ref27_change.A call Tryz.f72 ref27_change.an ref27_change.c n J
def ref27_change.f (J : Jn (AEnd × H)) (x0 : AV) (h : H) : Option (AEnd × H) := J [] [] ⟨[(0, x0)], [], [], h⟩
def ref27_change.j1 (J : Jn (AEnd × H)) (x0 x2 x3 x19 : AV) (h : H) : Option (AEnd × H) := J [1, 1, 1, 0, 1] [] ⟨[(0, x0), (2, x2), (3, x3), (19, x19)], [(0, 0), (2, 0), (3, 0), (19, 0)], [], h⟩
def ref27_change.j0 (J : Jn (AEnd × H)) (x0 x2 x3 : AV) (h : H) : Option (AEnd × H) := J [1, 1, 1, 1] [] ⟨[(0, x0), (2, x2), (3, x3)], [(0, 0), (2, 0), (3, 0)], [], h⟩
def ref27_change.j2 (J : Jn (AEnd × H)) (x0 x2 x3 : AV) (h : H) : Option (AEnd × H) := J [1, 1, 1, 1, 1] [] ⟨[(0, x0), (2, x2), (3, x3)], [(0, 0), (2, 0), (3, 0)], [], h⟩
def ref27_change.j3 (J : Jn (AEnd × H)) (x0 x2 x3 x59 : AV) (h : H) : Option (AEnd × H) := J [1, 1, 1, 1, 1, 0, 1] [] ⟨[(0, x0), (2, x2), (3, x3), (59, x59)], [(0, 0), (2, 0), (3, 0), (59, 0)], [], h⟩
theorem ref27_change.f_eq {call : Cl} {n : Nat} {J : Jn (AEnd × H)} (hJ : ref27_change.F call n J) (x0 : AV) (h : H) : ref27_change.f J x0 h =
  let h1 : H := h ++ [.arr [.int .i64 0, .int .u64 0, .int .i64 0, .int .i64 0, .str [], .str [], .int .i64 0, .str [], .int .i64 0, .int .i64 0, .str []] false]
  (call n_warrantorref02_Reader_Count [AV.canon x0, AV.canon (.int .i64 1048576)] h1).bind fun p2 => retOr p2.1 (fun r3p => some (AEnd.pan r3p, p2.2)) fun r3 =>
  (mkAgg [.int .i64 0, .int .u64 0, .int .i64 0, .int .i64 0, .str [], .str [], .int .i64 0, .str [], .int .i64 0, .int .i64 0, .str []] [(0, 1, AV.copy r3)]).bind fun v4 =>
  let h5 : H := p2.2 ++ [.arr [.int .i64 0, .int .u64 0, .int .i64 0, .int .i64 0, .str [], .str [], .int .i64 0, .str [], .int .i64 0, .int .i64 0, .str []] false]
  (stN 11 h5 (.ptr p2.2.length 0) v4).bind fun p6 =>
  (call n_warrantorref27_finger [AV.canon x0] p6.2).bind fun p7 => retOr p7.1 (fun r8p => some (AEnd.pan r8p, p7.2)) fun r8 =>
  (fAddr 1 (.ptr p2.2.length 0)).bind fun v9 =>
  (fAddr 0 v9).bind fun v10 =>
  (stN 1 p7.2 v10 r8).bind fun p11 =>
  (fAddr 0 (.ptr p2.2.length 0)).bind fun v12 =>
  (ldCell p11.2 v12).bind fun v13 =>
  (bin .eql v13 (.int .i64 1)).bind fun v14 =>
  condV v14 (
    ref27_change.j1 J  x0 (.ptr h.length 0) (.ptr p2.2.length 0) (.bool true) p11.2) (
    (fAddr 0 (.ptr p2.2.length 0)).bind fun v15 =>
    (ldCell p11.2 v15).bind fun v16 =>
    (bin .eql v16 (.int .i64 5)).bind fun v17 =>
    ref27_change.j1 J  x0 (.ptr h.length 0) (.ptr p2.2.length 0) v17 p11.2) := (hJ _ _ _ (by kernel_rfl)).trans (by kernel_rfl)
theorem ref27_change.j1_eq {call : Cl} {n : Nat} {J : Jn (AEnd × H)} (hJ : ref27_change.F call n J) (x0 x2 x3 x19 : AV) (h : H) : ref27_change.j1 J  x0 x2 x3 x19 h =
  condV x19 (
    (call n_warrantorref02_Reader_Count [AV.canon x0, AV.canon (.int .i64 1048576)] h).bind fun p18 => retOr p18.1 (fun r19p => some (AEnd.pan r19p, p18.2)) fun r19 =>
    (mkAgg [.int .i64 0, .int .i64 0, .str [], .str [], .int .i64 0, .str []] [(0, 1, AV.copy r19)]).bind fun v20 =>
    let h21 : H := p18.2 ++ [.arr [.int .i64 0, .int .i64 0, .str [], .str [], .int .i64 0, .str []] false]
    (stN 6 h21 (.ptr p18.2.length 0) v20).bind fun p22 =>
    (call n_warrantorref02_Reader_Count [AV.canon x0, AV.canon (.int .i64 1048576)] p22.2).bind fun p23 => retOr p23.1 (fun r24p => some (AEnd.pan r24p, p23.2)) fun r24 =>
    (fAddr 1 (.ptr p18.2.length 0)).bind fun v25 =>
    (stN 1 p23.2 v25 r24).bind fun p26 =>
    (call n_warrantorref02_Reader_Text [AV.canon x0, AV.canon (.int .i64 1048576)] p26.2).bind fun p27 => retOr p27.1 (fun r28p => some (AEnd.pan r28p, p27.2)) fun r28 =>
    (fAddr 2 (.ptr p18.2.length 0)).bind fun v29 =>
    (stN 1 p27.2 v29 r28).bind fun p30 =>
    (call n_warrantorref02_Reader_Text [AV.canon x0, AV.canon (.int .i64 1048576)] p30.2).bind fun p31 => retOr p31.1 (fun r32p => some (AEnd.pan r32p, p31.2)) fun r32 =>
    (fAddr 3 (.ptr p18.2.length 0)).bind fun v33 =>
    (stN 1 p31.2 v33 r32).bind fun p34 =>
    (call n_warrantorref02_Reader_Count [AV.canon x0, AV.canon (.int .i64 1048576)] p34.2).bind fun p35 => retOr p35.1 (fun r36p => some (AEnd.pan r36p, p35.2)) fun r36 =>
    (fAddr 4 (.ptr p18.2.length 0)).bind fun v37 =>
    (stN 1 p35.2 v37 r36).bind fun p38 =>
    (call n_warrantorref02_Reader_Text [AV.canon x0, AV.canon (.int .i64 1048576)] p38.2).bind fun p39 => retOr p39.1 (fun r40p => some (AEnd.pan r40p, p39.2)) fun r40 =>
    (fAddr 5 (.ptr p18.2.length 0)).bind fun v41 =>
    (stN 1 p39.2 v41 r40).bind fun p42 =>
    (ldAgg 6 p42.2 (.ptr p18.2.length 0)).bind fun v43 =>
    (fAddr 1 x3).bind fun v44 =>
    (fAddr 1 v44).bind fun v45 =>
    (stN 6 p42.2 v45 (AV.copy v43)).bind fun p46 =>
    ref27_change.j0 J  x0 x2 x3 p46.2) (
    ref27_change.j0 J  x0 x2 x3 h) := (hJ _ _ _ (by kernel_rfl)).trans (by kernel_rfl)
theorem ref27_change.j0_eq {call : Cl} {n : Nat} {J : Jn (AEnd × H)} (hJ : ref27_change.F call n J) (x0 x2 x3 : AV) (h : H) : ref27_change.j0 J  x0 x2 x3 h =
  (fAddr 0 x3).bind fun v47 =>
  (ldCell h v47).bind fun v48 =>
  (bin .eql v48 (.int .i64 5)).bind fun v49 =>
  condV v49 (
    (call n_warrantorref02_Reader_Count [AV.canon x0, AV.canon (.int .i64 1048576)] h).bind fun p50 => retOr p50.1 (fun r51p => some (AEnd.pan r51p, p50.2)) fun r51 =>
    (fAddr 1 x3).bind fun v52 =>
    (fAddr 7 v52).bind fun v53 =>
    (stN 1 p50.2 v53 r51).bind fun p54 =>
    (call n_warrantorref02_Reader_Count [AV.canon x0, AV.canon (.int .i64 1048576)] p54.2).bind fun p55 => retOr p55.1 (fun r56p => some (AEnd.pan r56p, p55.2)) fun r56 =>
    (fAddr 1 x3).bind fun v57 =>
    (fAddr 8 v57).bind fun v58 =>
    (stN 1 p55.2 v58 r56).bind fun p59 =>
    ref27_change.j2 J  x0 x2 x3 p59.2) (
    ref27_change.j2 J  x0 x2 x3 h) := (hJ _ _ _ (by kernel_rfl)).trans (by kernel_rfl)
theorem ref27_change.j2_eq {call : Cl} {n : Nat} {J : Jn (AEnd × H)} (hJ : ref27_change.F call n J) (x0 x2 x3 : AV) (h : H) : ref27_change.j2 J  x0 x2 x3 h =
  (fAddr 0 x3).bind fun v60 =>
  (ldCell h v60).bind fun v61 =>
  (bin .eql v61 (.int .i64 2)).bind fun v62 =>
  condV v62 (
    ref27_change.j3 J  x0 x2 x3 (.bool true) h) (
    (fAddr 0 x3).bind fun v63 =>
    (ldCell h v63).bind fun v64 =>
    (bin .eql v64 (.int .i64 5)).bind fun v65 =>
    ref27_change.j3 J  x0 x2 x3 v65 h) := (hJ _ _ _ (by kernel_rfl)).trans (by kernel_rfl)
theorem ref27_change.j3_eq {call : Cl} {n : Nat} {J : Jn (AEnd × H)} (hJ : ref27_change.F call n J) (x0 x2 x3 x59 : AV) (h : H) : ref27_change.j3 J  x0 x2 x3 x59 h =
  condV x59 (
    (call n_warrantorref02_Reader_Text [AV.canon x0, AV.canon (.int .i64 1048576)] h).bind fun p66 => retOr p66.1 (fun r67p => some (AEnd.pan r67p, p66.2)) fun r67 =>
    (fAddr 1 x3).bind fun v68 =>
    (fAddr 9 v68).bind fun v69 =>
    (stN 1 p66.2 v69 r67).bind fun p70 =>
    (ldAgg 11 p70.2 x3).bind fun v71 =>
    (stN 11 p70.2 x2 (AV.copy v71)).bind fun p72 =>
    (resN [(ldAgg 11 p72.2 x2).map AV.copy]).map fun v => (AEnd.ret v, p72.2)) (
    (ldAgg 11 h x3).bind fun v73 =>
    (stN 11 h x2 (AV.copy v73)).bind fun p74 =>
    (resN [(ldAgg 11 p74.2 x2).map AV.copy]).map fun v => (AEnd.ret v, p74.2)) := (hJ _ _ _ (by kernel_rfl)).trans (by kernel_rfl)
noncomputable def ref02_Reader_End.A : FAnn := { nv := 2, mv := [(1, 0)], ld := [], lst := [], obj := [], q := [], raw := [] }
noncomputable def ref02_Reader_End.an : Ann := .mk none .nil (.mk (some [(0, 0), (18, 0)]) .nil .nil)
noncomputable abbrev ref02_Reader_End.c : Code := Tryz.f73.body.getD .skip
noncomputable def ref02_Reader_End.J (call : Cl) (n : Nat) : Jn (AEnd × H) := realJ Tryz.prog ref02_Reader_End.A call Tryz.f73 ref02_Reader_End.an ref02_Reader_End.c n
abbrev ref02_Reader_End.F (call : Cl) (n : Nat) (J : Jn (AEnd × H)) : Prop := JFix Tryz.prog ref02_Reader_End.A call Tryz.f73 ref02_Reader_End.an ref02_Reader_End.c n J
def ref02_Reader_End.f (J : Jn (AEnd × H)) (x0 : AV) (h : H) : Option (AEnd × H) := J [] [] ⟨[(0, x0)], [], [], h⟩
def ref02_Reader_End.j0 (J : Jn (AEnd × H)) (x0 x18 : AV) (h : H) : Option (AEnd × H) := J [1] [] ⟨[(0, x0), (18, x18)], [(0, 0), (18, 0)], [], h⟩
theorem ref02_Reader_End.f_eq {call : Cl} {n : Nat} {J : Jn (AEnd × H)} (hJ : ref02_Reader_End.F call n J) (x0 : AV) (h : H) : ref02_Reader_End.f J x0 h =
  (nilOk x0).bind fun v1 =>
  (fAddr 2 v1).bind fun v2 =>
  (ldCell h v2).bind fun v3 =>
  (bin .eql v3 (.int .i64 0)).bind fun v4 =>
  condV v4 (
    (nilOk x0).bind fun v5 =>
    (fAddr 1 v5).bind fun v6 =>
    (ldCell h v6).bind fun v7 =>
    (nilOk x0).bind fun v8 =>
    (fAddr 0 v8).bind fun v9 =>
    (ldCell h v9).bind fun v10 =>
    (lnSl v10).bind fun v11 =>
    (bin .lss v7 v11).bind fun v12 =>
    ref02_Reader_End.j0 J  x0 v12 h) (
    ref02_Reader_End.j0 J  x0 (.bool false) h) := (hJ _ _ _ (by kernel_rfl)).trans (by kernel_rfl)
theorem ref02_Reader_End.j0_eq {call : Cl} {n : Nat} {J : Jn (AEnd × H)} (hJ : ref02_Reader_End.F call n J) (x0 x18 : AV) (h : H) : ref02_Reader_End.j0 J  x0 x18 h =
  condV x18 (
    (nilOk x0).bind fun v13 =>
    (fAddr 2 v13).bind fun v14 =>
    (stN 1 h v14 (.int .i64 3)).bind fun p15 =>
    some (AEnd.ret (.tuple []), p15.2)) (
    some (AEnd.ret (.tuple []), h)) := (hJ _ _ _ (by kernel_rfl)).trans (by kernel_rfl)
noncomputable def ref02_Num.A : FAnn := { nv := 2, mv := [(1, 0)], ld := [], lst := [], obj := [], q := [], raw := [] }
noncomputable def ref02_Num.an : Ann := .nil
noncomputable abbrev ref02_Num.c : Code := Tryz.f74.body.getD .skip
noncomputable def ref02_Num.J (call : Cl) (n : Nat) : Jn (AEnd × H) := realJ Tryz.prog ref02_Num.A call Tryz.f74 ref02_Num.an ref02_Num.c n
abbrev ref02_Num.F (call : Cl) (n : Nat) (J : Jn (AEnd × H)) : Prop := JFix Tryz.prog ref02_Num.A call Tryz.f74 ref02_Num.an ref02_Num.c n J
def ref02_Num.f (J : Jn (AEnd × H)) (x0 : AV) (h : H) : Option (AEnd × H) := J [] [] ⟨[(0, x0)], [], [], h⟩
theorem ref02_Num.f_eq {call : Cl} {n : Nat} {J : Jn (AEnd × H)} (hJ : ref02_Num.F call n J) (x0 : AV) (h : H) : ref02_Num.f J x0 h =
  (cvInt .u64 x0).bind fun v1 =>
  (call n_warrantorref01_Put [AV.canon v1] h).bind fun p2 => retOr p2.1 (fun r3p => some (AEnd.pan r3p, p2.2)) fun r3 =>
  some (AEnd.ret r3, p2.2) := (hJ _ _ _ (by kernel_rfl)).trans (by kernel_rfl)
noncomputable def ref27_alarm.A : FAnn := { nv := 4, mv := [(2, 0), (3, 0)], ld := [], lst := [], obj := [], q := [68, 74], raw := [] }
noncomputable def ref27_alarm.an : Ann := .nil
noncomputable abbrev ref27_alarm.c : Code := Tryz.f75.body.getD .skip
noncomputable def ref27_alarm.J (call : Cl) (n : Nat) : Jn (AEnd × H) := realJ Tryz.prog ref27_alarm.A call Tryz.f75 ref27_alarm.an ref27_alarm.c n
abbrev ref27_alarm.F (call : Cl) (n : Nat) (J : Jn (AEnd × H)) : Prop := JFix Tryz.prog ref27_alarm.A call Tryz.f75 ref27_alarm.an ref27_alarm.c n J
def ref27_alarm.f (J : Jn (AEnd × H)) (x0 : AV) (h : H) : Option (AEnd × H) := J [] [] ⟨[(0, x0)], [], [], h⟩
theorem ref27_alarm.f_eq {call : Cl} {n : Nat} {J : Jn (AEnd × H)} (hJ : ref27_alarm.F call n J) (x0 : AV) (h : H) : ref27_alarm.f J x0 h =
  (bx h (AV.copy x0)).bind fun p1 =>
  (fAddr 0 p1.1).bind fun v2 =>
  (ldCell p1.2 v2).bind fun v3 =>
  (call n_warrantorref02_Num [AV.canon v3] p1.2).bind fun p4 => retOr p4.1 (fun _ => none) fun r5 =>
  (fAddr 1 p1.1).bind fun v6 =>
  (ldCell p4.2 v6).bind fun v7 =>
  (call n_warrantorref02_Num [AV.canon v7] p4.2).bind fun p8 => retOr p8.1 (fun _ => none) fun r9 =>
  (apSlice 1 1 true true p8.2 r5 r9).bind fun v10 =>
  (fAddr 2 p1.1).bind fun v11 =>
  (ldCell p8.2 v11).bind fun v12 =>
  (call n_warrantorref02_Text [AV.canon v12] p8.2).bind fun p13 => retOr p13.1 (fun _ => none) fun r14 =>
  (apSlice 1 1 true true p13.2 v10 r14).bind fun v15 =>
  (fAddr 3 p1.1).bind fun v16 =>
  (ldCell p13.2 v16).bind fun v17 =>
  (call n_warrantorref02_Text [AV.canon v17] p13.2).bind fun p18 => retOr p18.1 (fun _ => none) fun r19 =>
  (apSlice 1 1 true true p18.2 v15 r19).bind fun v20 =>
  (fAddr 4 p1.1).bind fun v21 =>
  (ldCell p18.2 v21).bind fun v22 =>
  (call n_warrantorref02_Num [AV.canon v22] p18.2).bind fun p23 => retOr p23.1 (fun _ => none) fun r24 =>
  (apSlice 1 1 true true p23.2 v20 r24).bind fun v25 =>
  (fAddr 5 p1.1).bind fun v26 =>
  (ldCell p23.2 v26).bind fun v27 =>
  (call n_warrantorref02_Text [AV.canon v27] p23.2).bind fun p28 => retOr p28.1 (fun _ => none) fun r29 =>
  (apSlice 1 1 true true p28.2 v25 r29).bind fun v30 =>
  some (AEnd.ret v30, p28.2) := (hJ _ _ _ (by kernel_rfl)).trans (by kernel_rfl)
noncomputable def cur_Pen_U.A : FAnn := { nv := 4, mv := [(0, 0), (0, 1)], ld := [], lst := [], obj := [], q := [], raw := [] }
noncomputable def cur_Pen_U.an : Ann := .nil
noncomputable abbrev cur_Pen_U.c : Code := Tryz.f77.body.getD .skip
noncomputable def cur_Pen_U.J (call : Cl) (n : Nat) : Jn (AEnd × H) := realJ Tryz.prog cur_Pen_U.A call Tryz.f77 cur_Pen_U.an cur_Pen_U.c n
abbrev cur_Pen_U.F (call : Cl) (n : Nat) (J : Jn (AEnd × H)) : Prop := JFix Tryz.prog cur_Pen_U.A call Tryz.f77 cur_Pen_U.an cur_Pen_U.c n J
def cur_Pen_U.f (J : Jn (AEnd × H)) (x0 x1 : AV) (h : H) : Option (AEnd × H) := J [] [] ⟨[(0, x0), (1, x1)], [], [], h⟩
theorem cur_Pen_U.f_eq {call : Cl} {n : Nat} {J : Jn (AEnd × H)} (hJ : cur_Pen_U.F call n J) (x0 x1 : AV) (h : H) : cur_Pen_U.f J x0 x1 h =
  (call n_leb_Put [AV.canon x1] h).bind fun p1 => retOr p1.1 (fun r2p => some (AEnd.pan r2p, p1.2)) fun r2 =>
  (call n_cur_Pen_put [AV.canon x0, AV.canon r2] p1.2).bind fun p3 => retOr p3.1 (fun r4p => some (AEnd.pan r4p, p3.2)) fun r4 =>
  some (AEnd.ret (.tuple []), p3.2) := (hJ _ _ _ (by kernel_rfl)).trans (by kernel_rfl)
noncomputable def slices_Equal_api_Entry_api_Entry.A : FAnn := { nv := 6, mv := [(6, 5)], ld := [], lst := [], obj := [], q := [], raw := [] }
noncomputable def slices_Equal_api_Entry_api_Entry.an : Ann := .mk none .nil (.mk none .nil (.mk none (.mk none .nil (.mk none (.mk none (.mk (some [(0, 0), (1, 0), (12, 0), (13, 0)]) .nil .nil) .nil) .nil)) .nil))
noncomputable abbrev slices_Equal_api_Entry_api_Entry.c : Code := Tryz.f78.body.getD .skip
noncomputable def slices_Equal_api_Entry_api_Entry.J (call : Cl) (n : Nat) : Jn (AEnd × H) := realJ Tryz.prog slices_Equal_api_Entry_api_Entry.A call Tryz.f78 slices_Equal_api_Entry_api_Entry.an slices_Equal_api_Entry_api_Entry.c n
abbrev slices_Equal_api_Entry_api_Entry.F (call : Cl) (n : Nat) (J : Jn (AEnd × H)) : Prop := JFix Tryz.prog slices_Equal_api_Entry_api_Entry.A call Tryz.f78 slices_Equal_api_Entry_api_Entry.an slices_Equal_api_Entry_api_Entry.c n J
def slices_Equal_api_Entry_api_Entry.f (J : Jn (AEnd × H)) (x0 x1 : AV) (h : H) : Option (AEnd × H) := J [] [] ⟨[(0, x0), (1, x1)], [], [], h⟩
def slices_Equal_api_Entry_api_Entry.l0 (J : Jn (AEnd × H)) (m0 : Nat) (x0 x1 x12 x13 : AV) (h : H) : Option (AEnd × H) := J [1, 1, 0, 1, 0] [m0] ⟨[(0, x0), (1, x1), (12, x12), (13, x13)], [(0, 0), (1, 0), (12, 0), (13, 0)], [], h⟩
theorem slices_Equal_api_Entry_api_Entry.f_eq {call : Cl} {n : Nat} {J : Jn (AEnd × H)} (hJ : slices_Equal_api_Entry_api_Entry.F call n J) (x0 x1 : AV) (h : H) : slices_Equal_api_Entry_api_Entry.f J x0 x1 h =
  (lnSl x0).bind fun v1 =>
  (lnSl x1).bind fun v2 =>
  (bin .neq v1 v2).bind fun v3 =>
  condV v3 (
    some (AEnd.ret (.bool false), h)) (
    (lnSl x0).bind fun v4 =>
    slices_Equal_api_Entry_api_Entry.l0 J n x0 x1 v4 (.int .i64 0) h) := (hJ _ _ _ (by kernel_rfl)).trans (by kernel_rfl)
theorem slices_Equal_api_Entry_api_Entry.l0_eq {call : Cl} {n : Nat} {J : Jn (AEnd × H)} (hJ : slices_Equal_api_Entry_api_Entry.F call n J) (m0 : Nat) (x0 x1 x12 x13 : AV) (h : H) : slices_Equal_api_Entry_api_Entry.l0 J (m0 + 1) x0 x1 x12 x13 h =
  (bin .lss x13 x12).bind fun v5 =>
  condV v5 (
    (ixSlice 10 x0 x13).bind fun v6 =>
    (ldAgg 10 h v6).bind fun v7 =>
    (ixSlice 10 x1 x13).bind fun v8 =>
    (ldAgg 10 h v8).bind fun v9 =>
    (eqv true (aeq Tryz.prog 20 t_api_Entry v7 v9)).bind fun v10 =>
    condV v10 (
      some (AEnd.ret (.bool false), h)) (
      (bin .add x13 (.int .i64 1)).bind fun v11 =>
      slices_Equal_api_Entry_api_Entry.l0 J m0 x0 x1 x12 v11 h)) (
    some (AEnd.ret (.bool true), h)) := (hJ _ _ _ (by kernel_rfl)).trans (by kernel_rfl)
noncomputable def slices_EqualFunc_api_Change_api_Change_api_Change_api_Change.A : FAnn := { nv := 10, mv := [(3, 0), (6, 1), (7, 1), (7, 2)], ld := [], lst := [], obj := [], q := [], raw := [] }
noncomputable def slices_EqualFunc_api_Change_api_Change_api_Change_api_Change.an : Ann := .mk none .nil (.mk none .nil (.mk none (.mk none .nil (.mk none (.mk none (.mk (some [(1, 0), (2, 0), (15, 0), (16, 0), (17, 0)]) .nil .nil) .nil) .nil)) .nil))
noncomputable abbrev slices_EqualFunc_api_Change_api_Change_api_Change_api_Change.c : Code := Tryz.f79.body.getD .skip
noncomputable def slices_EqualFunc_api_Change_api_Change_api_Change_api_Change.J (call : Cl) (n : Nat) : Jn (AEnd × H) := realJ Tryz.prog slices_EqualFunc_api_Change_api_Change_api_Change_api_Change.A call Tryz.f79 slices_EqualFunc_api_Change_api_Change_api_Change_api_Change.an slices_EqualFunc_api_Change_api_Change_api_Change_api_Change.c n
abbrev slices_EqualFunc_api_Change_api_Change_api_Change_api_Change.F (call : Cl) (n : Nat) (J : Jn (AEnd × H)) : Prop := JFix Tryz.prog slices_EqualFunc_api_Change_api_Change_api_Change_api_Change.A call Tryz.f79 slices_EqualFunc_api_Change_api_Change_api_Change_api_Change.an slices_EqualFunc_api_Change_api_Change_api_Change_api_Change.c n J
def slices_EqualFunc_api_Change_api_Change_api_Change_api_Change.f (J : Jn (AEnd × H)) (x0 x1 x2 : AV) (h : H) : Option (AEnd × H) := J [] [] ⟨[(0, x0), (1, x1), (2, x2)], [], [], h⟩
def slices_EqualFunc_api_Change_api_Change_api_Change_api_Change.l0 (J : Jn (AEnd × H)) (m0 : Nat) (x1 x2 x15 x16 x17 : AV) (h : H) : Option (AEnd × H) := J [1, 1, 0, 1, 0] [m0] ⟨[(1, x1), (2, x2), (15, x15), (16, x16), (17, x17)], [(1, 0), (2, 0), (15, 0), (16, 0), (17, 0)], [], h⟩
theorem slices_EqualFunc_api_Change_api_Change_api_Change_api_Change.f_eq {call : Cl} {n : Nat} {J : Jn (AEnd × H)} (hJ : slices_EqualFunc_api_Change_api_Change_api_Change_api_Change.F call n J) (x0 x1 x2 : AV) (h : H) : slices_EqualFunc_api_Change_api_Change_api_Change_api_Change.f J x0 x1 x2 h =
  (lnSl x0).bind fun v1 =>
  (lnSl x1).bind fun v2 =>
  (bin .neq v1 v2).bind fun v3 =>
  condV v3 (
    some (AEnd.ret (.bool false), h)) (
    (lnSl x0).bind fun v4 =>
    slices_EqualFunc_api_Change_api_Change_api_Change_api_Change.l0 J n x1 x2 x0 v4 (.int .i64 0) h) := (hJ _ _ _ (by kernel_rfl)).trans (by kernel_rfl)
theorem slices_EqualFunc_api_Change_api_Change_api_Change_api_Change.l0_eq {call : Cl} {n : Nat} {J : Jn (AEnd × H)} (hJ : slices_EqualFunc_api_Change_api_Change_api_Change_api_Change.F call n J) (m0 : Nat) (x1 x2 x15 x16 x17 : AV) (h : H) : slices_EqualFunc_api_Change_api_Change_api_Change_api_Change.l0 J (m0 + 1) x1 x2 x15 x16 x17 h =
  (bin .lss x17 x16).bind fun v5 =>
  condV v5 (
    (ixSlice 1 x15 x17).bind fun v6 =>
    (ldCell h v6).bind fun v7 =>
    (ixSlice 1 x1 x17).bind fun v8 =>
    (ldCell h v8).bind fun v9 =>
    (callVal call h x2 [AV.canon v7, AV.canon v9]).bind fun p10 => retOr p10.1 (fun r11p => some (AEnd.pan r11p, p10.2)) fun r11 =>
    (unOp .not r11).bind fun v12 =>
    condV v12 (
      some (AEnd.ret (.bool false), p10.2)) (
      (bin .add x17 (.int .i64 1)).bind fun v13 =>
      slices_EqualFunc_api_Change_api_Change_api_Change_api_Change.l0 J m0 x1 x2 x15 x16 v13 p10.2)) (
    some (AEnd.ret (.bool true), h)) := (hJ _ _ _ (by kernel_rfl)).trans (by kernel_rfl)
noncomputable def rec_kinds_c1.A : FAnn := { nv := 2, mv := [], ld := [], lst := [], obj := [], q := [], raw := [] }
noncomputable def rec_kinds_c1.an : Ann := .nil
noncomputable abbrev rec_kinds_c1.c : Code := Tryz.f87.body.getD .skip
noncomputable def rec_kinds_c1.J (call : Cl) (n : Nat) : Jn (AEnd × H) := realJ Tryz.prog rec_kinds_c1.A call Tryz.f87 rec_kinds_c1.an rec_kinds_c1.c n
abbrev rec_kinds_c1.F (call : Cl) (n : Nat) (J : Jn (AEnd × H)) : Prop := JFix Tryz.prog rec_kinds_c1.A call Tryz.f87 rec_kinds_c1.an rec_kinds_c1.c n J
def rec_kinds_c1.f (J : Jn (AEnd × H)) (x0 : AV) (h : H) : Option (AEnd × H) := J [] [] ⟨[(0, x0)], [], [], h⟩
theorem rec_kinds_c1.f_eq {call : Cl} {n : Nat} {J : Jn (AEnd × H)} (hJ : rec_kinds_c1.F call n J) (x0 : AV) (h : H) : rec_kinds_c1.f J x0 h =
  (bx h (AV.copy x0)).bind fun p1 =>
  (ldAgg 10 p1.2 p1.1).bind fun v2 =>
  (fAddr 0 p1.1).bind fun v3 =>
  (ldCell p1.2 v3).bind fun v4 =>
  (mkAgg [.int .u64 0, .int .i64 0, .int .i64 0, .str [], .str [], .int .i64 0, .str [], .int .i64 0, .int .i64 0, .str []] [(0, 1, AV.copy v4)]).bind fun v5 =>
  (eqv false (aeq Tryz.prog 20 t_api_Entry v2 v5)).bind fun v6 =>
  some (AEnd.ret (AV.copy v6), p1.2) := (hJ _ _ _ (by kernel_rfl)).trans (by kernel_rfl)
noncomputable def rec_pen_alarm.A : FAnn := { nv := 4, mv := [], ld := [], lst := [], obj := [], q := [], raw := [] }
noncomputable def rec_pen_alarm.an : Ann := .nil
noncomputable abbrev rec_pen_alarm.c : Code := Tryz.f88.body.getD .skip
noncomputable def rec_pen_alarm.J (call : Cl) (n : Nat) : Jn (AEnd × H) := realJ Tryz.prog rec_pen_alarm.A call Tryz.f88 rec_pen_alarm.an rec_pen_alarm.c n
abbrev rec_pen_alarm.F (call : Cl) (n : Nat) (J : Jn (AEnd × H)) : Prop := JFix Tryz.prog rec_pen_alarm.A call Tryz.f88 rec_pen_alarm.an rec_pen_alarm.c n J
def rec_pen_alarm.f (J : Jn (AEnd × H)) (x0 x1 : AV) (h : H) : Option (AEnd × H) := J [] [] ⟨[(0, x0), (1, x1)], [], [], h⟩
theorem rec_pen_alarm.f_eq {call : Cl} {n : Nat} {J : Jn (AEnd × H)} (hJ : rec_pen_alarm.F call n J) (x0 x1 : AV) (h : H) : rec_pen_alarm.f J x0 x1 h =
  (bx h (AV.copy x0)).bind fun p1 =>
  (bx p1.2 (AV.copy x1)).bind fun p2 =>
  (fAddr 0 p1.1).bind fun v3 =>
  (ldCell p2.2 v3).bind fun v4 =>
  (fAddr 1 p2.1).bind fun v5 =>
  (fAddr 0 v5).bind fun v6 =>
  (ldCell p2.2 v6).bind fun v7 =>
  (cvInt .u64 v7).bind fun v8 =>
  (call n_cur_Pen_U [AV.canon v4, AV.canon v8] p2.2).bind fun p9 => retOr p9.1 (fun r10p => some (AEnd.pan r10p, p9.2)) fun r10 =>
  (fAddr 0 p1.1).bind fun v11 =>
  (ldCell p9.2 v11).bind fun v12 =>
  (fAddr 1 p2.1).bind fun v13 =>
  (fAddr 1 v13).bind fun v14 =>
  (ldCell p9.2 v14).bind fun v15 =>
  (cvInt .u64 v15).bind fun v16 =>
  (call n_cur_Pen_U [AV.canon v12, AV.canon v16] p9.2).bind fun p17 => retOr p17.1 (fun r18p => some (AEnd.pan r18p, p17.2)) fun r18 =>
  (fAddr 0 p1.1).bind fun v19 =>
  (ldCell p17.2 v19).bind fun v20 =>
  (fAddr 1 p2.1).bind fun v21 =>
  (fAddr 2 v21).bind fun v22 =>
  (ldCell p17.2 v22).bind fun v23 =>
  (call n_cur_Pen_Text [AV.canon v20, AV.canon v23] p17.2).bind fun p24 => retOr p24.1 (fun r25p => some (AEnd.pan r25p, p24.2)) fun r25 =>
  (fAddr 0 p1.1).bind fun v26 =>
  (ldCell p24.2 v26).bind fun v27 =>
  (fAddr 1 p2.1).bind fun v28 =>
  (fAddr 3 v28).bind fun v29 =>
  (ldCell p24.2 v29).bind fun v30 =>
  (call n_cur_Pen_Text [AV.canon v27, AV.canon v30] p24.2).bind fun p31 => retOr p31.1 (fun r32p => some (AEnd.pan r32p, p31.2)) fun r32 =>
  (fAddr 0 p1.1).bind fun v33 =>
  (ldCell p31.2 v33).bind fun v34 =>
  (fAddr 1 p2.1).bind fun v35 =>
  (fAddr 4 v35).bind fun v36 =>
  (ldCell p31.2 v36).bind fun v37 =>
  (cvInt .u64 v37).bind fun v38 =>
  (call n_cur_Pen_U [AV.canon v34, AV.canon v38] p31.2).bind fun p39 => retOr p39.1 (fun r40p => some (AEnd.pan r40p, p39.2)) fun r40 =>
  (fAddr 0 p1.1).bind fun v41 =>
  (ldCell p39.2 v41).bind fun v42 =>
  (fAddr 1 p2.1).bind fun v43 =>
  (fAddr 5 v43).bind fun v44 =>
  (ldCell p39.2 v44).bind fun v45 =>
  (call n_cur_Pen_Text [AV.canon v42, AV.canon v45] p39.2).bind fun p46 => retOr p46.1 (fun r47p => some (AEnd.pan r47p, p46.2)) fun r47 =>
  some (AEnd.ret (.tuple []), p46.2) := (hJ _ _ _ (by kernel_rfl)).trans (by kernel_rfl)
noncomputable def rec_taker_alarm.A : FAnn := { nv := 4, mv := [(6, 0)], ld := [], lst := [], obj := [], q := [], raw := [] }
noncomputable def rec_taker_alarm.an : Ann := .nil
noncomputable abbrev rec_taker_alarm.c : Code := Tryz.f89.body.getD .skip
noncomputable def rec_taker_alarm.J (call : Cl) (n : Nat) : Jn (AEnd × H) := realJ Tryz.prog rec_taker_alarm.A call Tryz.f89 rec_taker_alarm.an rec_taker_alarm.c n
abbrev rec_taker_alarm.F (call : Cl) (n : Nat) (J : Jn (AEnd × H)) : Prop := JFix Tryz.prog rec_taker_alarm.A call Tryz.f89 rec_taker_alarm.an rec_taker_alarm.c n J
def rec_taker_alarm.f (J : Jn (AEnd × H)) (x0 x1 : AV) (h : H) : Option (AEnd × H) := J [] [] ⟨[(0, x0), (1, x1)], [], [], h⟩
theorem rec_taker_alarm.f_eq {call : Cl} {n : Nat} {J : Jn (AEnd × H)} (hJ : rec_taker_alarm.F call n J) (x0 x1 : AV) (h : H) : rec_taker_alarm.f J x0 x1 h =
  (bx h (AV.copy x0)).bind fun p1 =>
  (ldAgg 1 p1.2 p1.1).bind fun v2 =>
  (call n_rec_taker_num [AV.canon v2] p1.2).bind fun p3 => retOr p3.1 (fun r4p => some (AEnd.pan r4p, p3.2)) fun r4 =>
  (nilOk x1).bind fun v5 =>
  (fAddr 1 v5).bind fun v6 =>
  (fAddr 0 v6).bind fun v7 =>
  (stN 1 p3.2 v7 r4).bind fun p8 =>
  (ldAgg 1 p8.2 p1.1).bind fun v9 =>
  (call n_rec_taker_num [AV.canon v9] p8.2).bind fun p10 => retOr p10.1 (fun r11p => some (AEnd.pan r11p, p10.2)) fun r11 =>
  (nilOk x1).bind fun v12 =>
  (fAddr 1 v12).bind fun v13 =>
  (fAddr 1 v13).bind fun v14 =>
  (stN 1 p10.2 v14 r11).bind fun p15 =>
  (ldAgg 1 p15.2 p1.1).bind fun v16 =>
  (call n_rec_taker_text [AV.canon v16] p15.2).bind fun p17 => retOr p17.1 (fun r18p => some (AEnd.pan r18p, p17.2)) fun r18 =>
  (nilOk x1).bind fun v19 =>
  (fAddr 1 v19).bind fun v20 =>
  (fAddr 2 v20).bind fun v21 =>
  (stN 1 p17.2 v21 r18).bind fun p22 =>
  (ldAgg 1 p22.2 p1.1).bind fun v23 =>
  (call n_rec_taker_text [AV.canon v23] p22.2).bind fun p24 => retOr p24.1 (fun r25p => some (AEnd.pan r25p, p24.2)) fun r25 =>
  (nilOk x1).bind fun v26 =>
  (fAddr 1 v26).bind fun v27 =>
  (fAddr 3 v27).bind fun v28 =>
  (stN 1 p24.2 v28 r25).bind fun p29 =>
  (ldAgg 1 p29.2 p1.1).bind fun v30 =>
  (call n_rec_taker_num [AV.canon v30] p29.2).bind fun p31 => retOr p31.1 (fun r32p => some (AEnd.pan r32p, p31.2)) fun r32 =>
  (nilOk x1).bind fun v33 =>
  (fAddr 1 v33).bind fun v34 =>
  (fAddr 4 v34).bind fun v35 =>
  (stN 1 p31.2 v35 r32).bind fun p36 =>
  (ldAgg 1 p36.2 p1.1).bind fun v37 =>
  (call n_rec_taker_text [AV.canon v37] p36.2).bind fun p38 => retOr p38.1 (fun r39p => some (AEnd.pan r39p, p38.2)) fun r39 =>
  (nilOk x1).bind fun v40 =>
  (fAddr 1 v40).bind fun v41 =>
  (fAddr 5 v41).bind fun v42 =>
  (stN 1 p38.2 v42 r39).bind fun p43 =>
  some (AEnd.ret (.tuple []), p43.2) := (hJ _ _ _ (by kernel_rfl)).trans (by kernel_rfl)
noncomputable def rec_kinds_c2.A : FAnn := { nv := 3, mv := [], ld := [], lst := [], obj := [], q := [], raw := [] }
noncomputable def rec_kinds_c2.an : Ann := .nil
noncomputable abbrev rec_kinds_c2.c : Code := Tryz.f90.body.getD .skip
noncomputable def rec_kinds_c2.J (call : Cl) (n : Nat) : Jn (AEnd × H) := realJ Tryz.prog rec_kinds_c2.A call Tryz.f90 rec_kinds_c2.an rec_kinds_c2.c n
abbrev rec_kinds_c2.F (call : Cl) (n : Nat) (J : Jn (AEnd × H)) : Prop := JFix Tryz.prog rec_kinds_c2.A call Tryz.f90 rec_kinds_c2.an rec_kinds_c2.c n J
def rec_kinds_c2.f (J : Jn (AEnd × H)) (x0 x1 : AV) (h : H) : Option (AEnd × H) := J [] [] ⟨[(0, x0), (1, x1)], [], [], h⟩
theorem rec_kinds_c2.f_eq {call : Cl} {n : Nat} {J : Jn (AEnd × H)} (hJ : rec_kinds_c2.F call n J) (x0 x1 : AV) (h : H) : rec_kinds_c2.f J x0 x1 h =
  (bx h (AV.copy x0)).bind fun p1 =>
  (fAddr 1 p1.1).bind fun v2 =>
  (ldAgg 6 p1.2 v2).bind fun v3 =>
  (call n_alarm_Check [AV.canon v3] p1.2).bind fun p4 => retOr p4.1 (fun r5p => some (AEnd.pan r5p, p4.2)) fun r5 =>
  (bin .eql r5 (.int .i64 0)).bind fun v6 =>
  condV v6 (
    (ldCell p4.2 x1).bind fun v7 =>
    (fAddr 7 p1.1).bind fun v8 =>
    (ldCell p4.2 v8).bind fun v9 =>
    (fAddr 8 p1.1).bind fun v10 =>
    (ldCell p4.2 v10).bind fun v11 =>
    (fAddr 9 p1.1).bind fun v12 =>
    (ldCell p4.2 v12).bind fun v13 =>
    (mkAgg [.int .u64 0, .int .i64 0, .int .i64 0, .str [], .str [], .int .i64 0, .str [], .int .i64 0, .int .i64 0, .str []] [(7, 1, AV.copy v9), (8, 1, AV.copy v11), (9, 1, AV.copy v13)]).bind fun v14 =>
    (callVal call p4.2 v7 [AV.canon v14]).bind fun p15 => retOr p15.1 (fun r16p => some (AEnd.pan r16p, p15.2)) fun r16 =>
    some (AEnd.ret (AV.copy r16), p15.2)) (
    some (AEnd.ret (AV.copy (.bool false)), p4.2)) := (hJ _ _ _ (by kernel_rfl)).trans (by kernel_rfl)
noncomputable def rec_pen_note.A : FAnn := { nv := 4, mv := [], ld := [], lst := [], obj := [], q := [], raw := [] }
noncomputable def rec_pen_note.an : Ann := .nil
noncomputable abbrev rec_pen_note.c : Code := Tryz.f91.body.getD .skip
noncomputable def rec_pen_note.J (call : Cl) (n : Nat) : Jn (AEnd × H) := realJ Tryz.prog rec_pen_note.A call Tryz.f91 rec_pen_note.an rec_pen_note.c n
abbrev rec_pen_note.F (call : Cl) (n : Nat) (J : Jn (AEnd × H)) : Prop := JFix Tryz.prog rec_pen_note.A call Tryz.f91 rec_pen_note.an rec_pen_note.c n J
def rec_pen_note.f (J : Jn (AEnd × H)) (x0 x1 : AV) (h : H) : Option (AEnd × H) := J [] [] ⟨[(0, x0), (1, x1)], [], [], h⟩
theorem rec_pen_note.f_eq {call : Cl} {n : Nat} {J : Jn (AEnd × H)} (hJ : rec_pen_note.F call n J) (x0 x1 : AV) (h : H) : rec_pen_note.f J x0 x1 h =
  (bx h (AV.copy x0)).bind fun p1 =>
  (bx p1.2 (AV.copy x1)).bind fun p2 =>
  (fAddr 0 p1.1).bind fun v3 =>
  (ldCell p2.2 v3).bind fun v4 =>
  (fAddr 9 p2.1).bind fun v5 =>
  (ldCell p2.2 v5).bind fun v6 =>
  (call n_cur_Pen_Text [AV.canon v4, AV.canon v6] p2.2).bind fun p7 => retOr p7.1 (fun r8p => some (AEnd.pan r8p, p7.2)) fun r8 =>
  some (AEnd.ret (.tuple []), p7.2) := (hJ _ _ _ (by kernel_rfl)).trans (by kernel_rfl)
noncomputable def rec_taker_note.A : FAnn := { nv := 4, mv := [(1, 0)], ld := [], lst := [], obj := [], q := [], raw := [] }
noncomputable def rec_taker_note.an : Ann := .nil
noncomputable abbrev rec_taker_note.c : Code := Tryz.f92.body.getD .skip
noncomputable def rec_taker_note.J (call : Cl) (n : Nat) : Jn (AEnd × H) := realJ Tryz.prog rec_taker_note.A call Tryz.f92 rec_taker_note.an rec_taker_note.c n
abbrev rec_taker_note.F (call : Cl) (n : Nat) (J : Jn (AEnd × H)) : Prop := JFix Tryz.prog rec_taker_note.A call Tryz.f92 rec_taker_note.an rec_taker_note.c n J
def rec_taker_note.f (J : Jn (AEnd × H)) (x0 x1 : AV) (h : H) : Option (AEnd × H) := J [] [] ⟨[(0, x0), (1, x1)], [], [], h⟩
theorem rec_taker_note.f_eq {call : Cl} {n : Nat} {J : Jn (AEnd × H)} (hJ : rec_taker_note.F call n J) (x0 x1 : AV) (h : H) : rec_taker_note.f J x0 x1 h =
  (bx h (AV.copy x0)).bind fun p1 =>
  (ldAgg 1 p1.2 p1.1).bind fun v2 =>
  (call n_rec_taker_text [AV.canon v2] p1.2).bind fun p3 => retOr p3.1 (fun r4p => some (AEnd.pan r4p, p3.2)) fun r4 =>
  (nilOk x1).bind fun v5 =>
  (fAddr 9 v5).bind fun v6 =>
  (stN 1 p3.2 v6 r4).bind fun p7 =>
  some (AEnd.ret (.tuple []), p7.2) := (hJ _ _ _ (by kernel_rfl)).trans (by kernel_rfl)
noncomputable def rec_kinds_c3.A : FAnn := { nv := 3, mv := [], ld := [], lst := [], obj := [], q := [], raw := [] }
noncomputable def rec_kinds_c3.an : Ann := .nil
noncomputable abbrev rec_kinds_c3.c : Code := Tryz.f93.body.getD .skip
noncomputable def rec_kinds_c3.J (call : Cl) (n : Nat) : Jn (AEnd × H) := realJ Tryz.prog rec_kinds_c3.A call Tryz.f93 rec_kinds_c3.an rec_kinds_c3.c n
abbrev rec_kinds_c3.F (call : Cl) (n : Nat) (J : Jn (AEnd × H)) : Prop := JFix Tryz.prog rec_kinds_c3.A call Tryz.f93 rec_kinds_c3.an rec_kinds_c3.c n J
def rec_kinds_c3.f (J : Jn (AEnd × H)) (x0 x1 : AV) (h : H) : Option (AEnd × H) := J [] [] ⟨[(0, x0), (1, x1)], [], [], h⟩
theorem rec_kinds_c3.f_eq {call : Cl} {n : Nat} {J : Jn (AEnd × H)} (hJ : rec_kinds_c3.F call n J) (x0 x1 : AV) (h : H) : rec_kinds_c3.f J x0 x1 h =
  (bx h (AV.copy x0)).bind fun p1 =>
  (fAddr 9 p1.1).bind fun v2 =>
  (ldCell p1.2 v2).bind fun v3 =>
  (call n_rec_note [AV.canon v3] p1.2).bind fun p4 => retOr p4.1 (fun r5p => some (AEnd.pan r5p, p4.2)) fun r5 =>
  condV r5 (
    (ldCell p4.2 x1).bind fun v6 =>
    (fAddr 1 p1.1).bind fun v7 =>
    (ldAgg 6 p4.2 v7).bind fun v8 =>
    (fAddr 7 p1.1).bind fun v9 =>
    (ldCell p4.2 v9).bind fun v10 =>
    (fAddr 8 p1.1).bind fun v11 =>
    (ldCell p4.2 v11).bind fun v12 =>
    (mkAgg [.int .u64 0, .int .i64 0, .int .i64 0, .str [], .str [], .int .i64 0, .str [], .int .i64 0, .int .i64 0, .str []] [(1, 6, AV.copy v8), (7, 1, AV.copy v10), (8, 1, AV.copy v12)]).bind fun v13 =>
    (callVal call p4.2 v6 [AV.canon v13]).bind fun p14 => retOr p14.1 (fun r15p => some (AEnd.pan r15p, p14.2)) fun r15 =>
    some (AEnd.ret (AV.copy r15), p14.2)) (
    some (AEnd.ret (AV.copy (.bool false)), p4.2)) := (hJ _ _ _ (by kernel_rfl)).trans (by kernel_rfl)
noncomputable def rec_pen_stand.A : FAnn := { nv := 4, mv := [], ld := [], lst := [], obj := [], q := [], raw := [] }
noncomputable def rec_pen_stand.an : Ann := .nil
noncomputable abbrev rec_pen_stand.c : Code := Tryz.f94.body.getD .skip
noncomputable def rec_pen_stand.J (call : Cl) (n : Nat) : Jn (AEnd × H) := realJ Tryz.prog rec_pen_stand.A call Tryz.f94 rec_pen_stand.an rec_pen_stand.c n
abbrev rec_pen_stand.F (call : Cl) (n : Nat) (J : Jn (AEnd × H)) : Prop := JFix Tryz.prog rec_pen_stand.A call Tryz.f94 rec_pen_stand.an rec_pen_stand.c n J
def rec_pen_stand.f (J : Jn (AEnd × H)) (x0 x1 : AV) (h : H) : Option (AEnd × H) := J [] [] ⟨[(0, x0), (1, x1)], [], [], h⟩
theorem rec_pen_stand.f_eq {call : Cl} {n : Nat} {J : Jn (AEnd × H)} (hJ : rec_pen_stand.F call n J) (x0 x1 : AV) (h : H) : rec_pen_stand.f J x0 x1 h =
  (bx h (AV.copy x0)).bind fun p1 =>
  (bx p1.2 (AV.copy x1)).bind fun p2 =>
  (fAddr 0 p1.1).bind fun v3 =>
  (ldCell p2.2 v3).bind fun v4 =>
  (fAddr 7 p2.1).bind fun v5 =>
  (ldCell p2.2 v5).bind fun v6 =>
  (cvInt .u64 v6).bind fun v7 =>
  (call n_cur_Pen_U [AV.canon v4, AV.canon v7] p2.2).bind fun p8 => retOr p8.1 (fun r9p => some (AEnd.pan r9p, p8.2)) fun r9 =>
  (fAddr 0 p1.1).bind fun v10 =>
  (ldCell p8.2 v10).bind fun v11 =>
  (fAddr 8 p2.1).bind fun v12 =>
  (ldCell p8.2 v12).bind fun v13 =>
  (cvInt .u64 v13).bind fun v14 =>
  (call n_cur_Pen_U [AV.canon v11, AV.canon v14] p8.2).bind fun p15 => retOr p15.1 (fun r16p => some (AEnd.pan r16p, p15.2)) fun r16 =>
  some (AEnd.ret (.tuple []), p15.2) := (hJ _ _ _ (by kernel_rfl)).trans (by kernel_rfl)
noncomputable def rec_taker_stand.A : FAnn := { nv := 4, mv := [(2, 0)], ld := [], lst := [], obj := [], q := [], raw := [] }
noncomputable def rec_taker_stand.an : Ann := .nil
noncomputable abbrev rec_taker_stand.c : Code := Tryz.f95.body.getD .skip
noncomputable def rec_taker_stand.J (call : Cl) (n : Nat) : Jn (AEnd × H) := realJ Tryz.prog rec_taker_stand.A call Tryz.f95 rec_taker_stand.an rec_taker_stand.c n
abbrev rec_taker_stand.F (call : Cl) (n : Nat) (J : Jn (AEnd × H)) : Prop := JFix Tryz.prog rec_taker_stand.A call Tryz.f95 rec_taker_stand.an rec_taker_stand.c n J
def rec_taker_stand.f (J : Jn (AEnd × H)) (x0 x1 : AV) (h : H) : Option (AEnd × H) := J [] [] ⟨[(0, x0), (1, x1)], [], [], h⟩
theorem rec_taker_stand.f_eq {call : Cl} {n : Nat} {J : Jn (AEnd × H)} (hJ : rec_taker_stand.F call n J) (x0 x1 : AV) (h : H) : rec_taker_stand.f J x0 x1 h =
  (bx h (AV.copy x0)).bind fun p1 =>
  (ldAgg 1 p1.2 p1.1).bind fun v2 =>
  (call n_rec_taker_num [AV.canon v2] p1.2).bind fun p3 => retOr p3.1 (fun r4p => some (AEnd.pan r4p, p3.2)) fun r4 =>
  (nilOk x1).bind fun v5 =>
  (fAddr 7 v5).bind fun v6 =>
  (stN 1 p3.2 v6 r4).bind fun p7 =>
  (ldAgg 1 p7.2 p1.1).bind fun v8 =>
  (call n_rec_taker_num [AV.canon v8] p7.2).bind fun p9 => retOr p9.1 (fun r10p => some (AEnd.pan r10p, p9.2)) fun r10 =>
  (nilOk x1).bind fun v11 =>
  (fAddr 8 v11).bind fun v12 =>
  (stN 1 p9.2 v12 r10).bind fun p13 =>
  some (AEnd.ret (.tuple []), p13.2) := (hJ _ _ _ (by kernel_rfl)).trans (by kernel_rfl)
noncomputable def alarm_expr.A : FAnn := { nv := 4, mv := [(2, 8), (2, 9)], ld := [], lst := [], obj := [], q := [], raw := [] }
noncomputable def alarm_expr.an : Ann := .nil
noncomputable abbrev alarm_expr.c : Code := Tryz.f96.body.getD .skip
noncomputable def alarm_expr.J (call : Cl) (n : Nat) : Jn (AEnd × H) := realJ Tryz.prog alarm_expr.A call Tryz.f96 alarm_expr.an alarm_expr.c n
abbrev alarm_expr.F (call : Cl) (n : Nat) (J : Jn (AEnd × H)) : Prop := JFix Tryz.prog alarm_expr.A call Tryz.f96 alarm_expr.an alarm_expr.c n J
def alarm_expr.f (J : Jn (AEnd × H)) (x0 : AV) (h : H) : Option (AEnd × H) := J [] [] ⟨[(0, x0)], [], [], h⟩
theorem alarm_expr.f_eq {call : Cl} {n : Nat} {J : Jn (AEnd × H)} (hJ : alarm_expr.F call n J) (x0 : AV) (h : H) : alarm_expr.f J x0 h =
  (bin .neq x0 (.str [])).bind fun v1 =>
  condV v1 (
    (lnStr x0).bind fun v2 =>
    (bin .leq v2 (.int .i64 128)).bind fun v3 =>
    condV v3 (
      (call n_strings_ContainsFunc [AV.canon x0, AV.canon (.func (.func n_alarm_expr_c1) [] [])] h).bind fun p4 => retOr p4.1 (fun r5p => some (AEnd.pan r5p, p4.2)) fun r5 =>
      (unOp .not r5).bind fun v6 =>
      some (AEnd.ret (AV.copy v6), p4.2)) (
      some (AEnd.ret (AV.copy (.bool false)), h))) (
    some (AEnd.ret (AV.copy (.bool false)), h)) := (hJ _ _ _ (by kernel_rfl)).trans (by kernel_rfl)
noncomputable def prog_Check.A : FAnn := { nv := 5, mv := [(5, 6)], ld := [], lst := [], obj := [], q := [], raw := [] }
noncomputable def prog_Check.an : Ann := .mk none .nil (.mk none .nil (.mk none .nil (.mk none (.mk none .nil (.mk (some [(1, 0), (4, 0), (29, 0)]) .nil .nil)) (.mk (some [(1, 0), (4, 0)]) (.mk none .nil (.mk (some [(38, 0)]) .nil .nil)) .nil))))
noncomputable abbrev prog_Check.c : Code := Tryz.f97.body.getD .skip
noncomputable def prog_Check.J (call : Cl) (n : Nat) : Jn (AEnd × H) := realJ Tryz.prog prog_Check.A call Tryz.f97 prog_Check.an prog_Check.c n
abbrev prog_Check.F (call : Cl) (n : Nat) (J : Jn (AEnd × H)) : Prop := JFix Tryz.prog prog_Check.A call Tryz.f97 prog_Check.an prog_Check.c n J
def prog_Check.f (J : Jn (AEnd × H)) (x0 : AV) (h : H) : Option (AEnd × H) := J [] [] ⟨[(0, x0)], [], [], h⟩
def prog_Check.j1 (J : Jn (AEnd × H)) (x1 x4 x29 : AV) (h : H) : Option (AEnd × H) := J [1, 1, 1, 0, 1] [] ⟨[(1, x1), (4, x4), (29, x29)], [(1, 0), (4, 0), (29, 0)], [], h⟩
def prog_Check.j0 (J : Jn (AEnd × H)) (x1 x4 : AV) (h : H) : Option (AEnd × H) := J [1, 1, 1, 1] [] ⟨[(1, x1), (4, x4)], [(1, 0), (4, 0)], [], h⟩
def prog_Check.j2 (J : Jn (AEnd × H)) (x38 : AV) (h : H) : Option (AEnd × H) := J [1, 1, 1, 1, 0, 1] [] ⟨[(38, x38)], [(38, 0)], [], h⟩
theorem prog_Check.f_eq {call : Cl} {n : Nat} {J : Jn (AEnd × H)} (hJ : prog_Check.F call n J) (x0 : AV) (h : H) : prog_Check.f J x0 h =
  (bx h (AV.copy x0)).bind fun p1 =>
  (fAddr 2 p1.1).bind fun v2 =>
  (ldCell p1.2 v2).bind fun v3 =>
  (lnSl v3).bind fun v4 =>
  let h5 : H := p1.2 ++ [.arr [.int .i64 0] false]
  (stN 1 h5 (.ptr p1.2.length 0) (AV.copy v4)).bind fun p6 =>
  (fAddr 0 p1.1).bind fun v7 =>
  (ldCell p6.2 v7).bind fun v8 =>
  (call n_prog_name [AV.canon v8] p6.2).bind fun p9 => retOr p9.1 (fun r10p => some (AEnd.pan r10p, p9.2)) fun r10 =>
  (unOp .not r10).bind fun v11 =>
  condV v11 (
    prog_Check.j1 J  p1.1 (.func (.func n_prog_Check_c1) [] [AV.copy (.ptr p1.2.length 0), AV.copy p1.1]) (.bool true) p9.2) (
    (fAddr 1 p1.1).bind fun v12 =>
    (ldCell p9.2 v12).bind fun v13 =>
    (call n_prog_vars [AV.canon v13] p9.2).bind fun p14 => retOr p14.1 (fun r15p => some (AEnd.pan r15p, p14.2)) fun r15 =>
    (unOp .not r15).bind fun v16 =>
    condV v16 (
      prog_Check.j1 J  p1.1 (.func (.func n_prog_Check_c1) [] [AV.copy (.ptr p1.2.length 0), AV.copy p1.1]) (.bool true) p14.2) (
      (ldCell p14.2 (.ptr p1.2.length 0)).bind fun v17 =>
      (call n_prog_one [AV.canon v17, AV.canon (.int .i64 128)] p14.2).bind fun p18 => retOr p18.1 (fun r19p => some (AEnd.pan r19p, p18.2)) fun r19 =>
      (unOp .not r19).bind fun v20 =>
      condV v20 (
        prog_Check.j1 J  p1.1 (.func (.func n_prog_Check_c1) [] [AV.copy (.ptr p1.2.length 0), AV.copy p1.1]) (.bool true) p18.2) (
        (fAddr 3 p1.1).bind fun v21 =>
        (ldCell p18.2 v21).bind fun v22 =>
        (lnSl v22).bind fun v23 =>
        (bin .gtr v23 (.int .i64 256)).bind fun v24 =>
        prog_Check.j1 J  p1.1 (.func (.func n_prog_Check_c1) [] [AV.copy (.ptr p1.2.length 0), AV.copy p1.1]) v24 p18.2))) := (hJ _ _ _ (by kernel_rfl)).trans (by kernel_rfl)
theorem prog_Check.j1_eq {call : Cl} {n : Nat} {J : Jn (AEnd × H)} (hJ : prog_Check.F call n J) (x1 x4 x29 : AV) (h : H) : prog_Check.j1 J  x1 x4 x29 h =
  condV x29 (
    some (AEnd.ret (.int .i64 110), h)) (
    prog_Check.j0 J  x1 x4 h) := (hJ _ _ _ (by kernel_rfl)).trans (by kernel_rfl)
theorem prog_Check.j0_eq {call : Cl} {n : Nat} {J : Jn (AEnd × H)} (hJ : prog_Check.F call n J) (x1 x4 : AV) (h : H) : prog_Check.j0 J  x1 x4 h =
  (fAddr 2 x1).bind fun v25 =>
  (ldCell h v25).bind fun v26 =>
  (call n_slices_ContainsFunc_api_Spot_api_Spot [AV.canon v26, AV.canon (.func (.func n_prog_Check_c2) [] [])] h).bind fun p27 => retOr p27.1 (fun r28p => some (AEnd.pan r28p, p27.2)) fun r28 =>
  condV r28 (
    prog_Check.j2 J  (.bool true) p27.2) (
    (fAddr 3 x1).bind fun v29 =>
    (ldCell p27.2 v29).bind fun v30 =>
    (call n_slices_ContainsFunc_api_Edge_api_Edge [AV.canon v30, AV.canon x4] p27.2).bind fun p31 => retOr p31.1 (fun r32p => some (AEnd.pan r32p, p31.2)) fun r32 =>
    prog_Check.j2 J  r32 p31.2) := (hJ _ _ _ (by kernel_rfl)).trans (by kernel_rfl)
theorem prog_Check.j2_eq {call : Cl} {n : Nat} {J : Jn (AEnd × H)} (hJ : prog_Check.F call n J) (x38 : AV) (h : H) : prog_Check.j2 J  x38 h =
  condV x38 (
    some (AEnd.ret (.int .i64 110), h)) (
    some (AEnd.ret (.int .i64 0), h)) := (hJ _ _ _ (by kernel_rfl)).trans (by kernel_rfl)
noncomputable def result_Base.A : FAnn := { nv := 5, mv := [(6, 11)], ld := [], lst := [], obj := [], q := [140], raw := [] }
noncomputable def result_Base.an : Ann := .mk none .nil (.mk none .nil (.mk none (.mk none .nil (.mk none (.mk none (.mk (some [(0, 0), (8, 0), (9, 0), (10, 0)]) .nil (.mk none .nil (.mk none (.mk none (.mk none .nil (.mk none .nil (.mk (some [(0, 0), (8, 0), (9, 0), (10, 0), (33, 0)]) .nil .nil))) .nil) .nil))) .nil) .nil)) .nil))
noncomputable abbrev result_Base.c : Code := Tryz.f98.body.getD .skip
noncomputable def result_Base.J (call : Cl) (n : Nat) : Jn (AEnd × H) := realJ Tryz.prog result_Base.A call Tryz.f98 result_Base.an result_Base.c n
abbrev result_Base.F (call : Cl) (n : Nat) (J : Jn (AEnd × H)) : Prop := JFix Tryz.prog result_Base.A call Tryz.f98 result_Base.an result_Base.c n J
def result_Base.f (J : Jn (AEnd × H)) (x0 : AV) (h : H) : Option (AEnd × H) := J [] [] ⟨[(0, x0)], [], [], h⟩
def result_Base.l0 (J : Jn (AEnd × H)) (m0 : Nat) (x0 x8 x9 x10 : AV) (h : H) : Option (AEnd × H) := J [1, 1, 0, 1, 0] [m0] ⟨[(0, x0), (8, x8), (9, x9), (10, x10)], [(0, 0), (8, 0), (9, 0), (10, 0)], [], h⟩
def result_Base.j0 (J : Jn (AEnd × H)) (m0 : Nat) (x0 x8 x9 x10 x33 : AV) (h : H) : Option (AEnd × H) := J [1, 1, 0, 1, 0, 0, 1, 1, 0, 0, 1, 1] [m0] ⟨[(0, x0), (8, x8), (9, x9), (10, x10), (33, x33)], [(0, 0), (8, 0), (9, 0), (10, 0), (33, 0)], [], h⟩
theorem result_Base.f_eq {call : Cl} {n : Nat} {J : Jn (AEnd × H)} (hJ : result_Base.F call n J) (x0 : AV) (h : H) : result_Base.f J x0 h =
  (lnSl x0).bind fun v1 =>
  (bin .gtr v1 (.int .i64 1024)).bind fun v2 =>
  condV v2 (
    some (AEnd.ret (.int .i64 210), h)) (
    (lnSl x0).bind fun v3 =>
    result_Base.l0 J n x0 x0 v3 (.int .i64 0) h) := (hJ _ _ _ (by kernel_rfl)).trans (by kernel_rfl)
theorem result_Base.l0_eq {call : Cl} {n : Nat} {J : Jn (AEnd × H)} (hJ : result_Base.F call n J) (m0 : Nat) (x0 x8 x9 x10 : AV) (h : H) : result_Base.l0 J (m0 + 1) x0 x8 x9 x10 h =
  (bin .lss x10 x9).bind fun v4 =>
  condV v4 (
    (ixSlice 2 x8 x10).bind fun v5 =>
    (ldAgg 2 h v5).bind fun v6 =>
    let h7 : H := h ++ [.arr [.int .u64 0, .str []] false]
    (stN 2 h7 (.ptr h.length 0) (AV.copy v6)).bind fun p8 =>
    (fAddr 1 (.ptr h.length 0)).bind fun v9 =>
    (ldCell p8.2 v9).bind fun v10 =>
    (call n_result_note [AV.canon v10] p8.2).bind fun p11 => retOr p11.1 (fun _ => none) fun r12 =>
    (unOp .not r12).bind fun v13 =>
    condV v13 (
      result_Base.j0 J m0 x0 x8 x9 x10 (.bool true) p11.2) (
      (bin .gtr x10 (.int .i64 0)).bind fun v14 =>
      condV v14 (
        (fAddr 0 (.ptr h.length 0)).bind fun v15 =>
        (ldCell p11.2 v15).bind fun v16 =>
        (bin .sub x10 (.int .i64 1)).bind fun v17 =>
        (ixSlice 2 x0 v17).bind fun v18 =>
        (fAddr 0 v18).bind fun v19 =>
        (ldCell p11.2 v19).bind fun v20 =>
        (bin .leq v16 v20).bind fun v21 =>
        result_Base.j0 J m0 x0 x8 x9 x10 v21 p11.2) (
        result_Base.j0 J m0 x0 x8 x9 x10 (.bool false) p11.2))) (
    some (AEnd.ret (.int .i64 0), h)) := (hJ _ _ _ (by kernel_rfl)).trans (by kernel_rfl)
theorem result_Base.j0_eq {call : Cl} {n : Nat} {J : Jn (AEnd × H)} (hJ : result_Base.F call n J) (m0 : Nat) (x0 x8 x9 x10 x33 : AV) (h : H) : result_Base.j0 J m0 x0 x8 x9 x10 x33 h =
  condV x33 (
    some (AEnd.ret (.int .i64 210), h)) (
    (bin .add x10 (.int .i64 1)).bind fun v22 =>
    result_Base.l0 J m0 x0 x8 x9 v22 h) := (hJ _ _ _ (by kernel_rfl)).trans (by kernel_rfl)
noncomputable def ref11_Name.A : FAnn := { nv := 4, mv := [(3, 0), (6, 9)], ld := [], lst := [], obj := [], q := [], raw := [] }
noncomputable def ref11_Name.an : Ann := .mk none .nil (.mk none (.mk none .nil (.mk none (.mk none (.mk (some [(0, 0), (3, 0)]) .nil .nil) .nil) .nil)) .nil)
noncomputable abbrev ref11_Name.c : Code := Tryz.f99.body.getD .skip
noncomputable def ref11_Name.J (call : Cl) (n : Nat) : Jn (AEnd × H) := realJ Tryz.prog ref11_Name.A call Tryz.f99 ref11_Name.an ref11_Name.c n
abbrev ref11_Name.F (call : Cl) (n : Nat) (J : Jn (AEnd × H)) : Prop := JFix Tryz.prog ref11_Name.A call Tryz.f99 ref11_Name.an ref11_Name.c n J
def ref11_Name.f (J : Jn (AEnd × H)) (x0 : AV) (h : H) : Option (AEnd × H) := J [] [] ⟨[(0, x0)], [], [], h⟩
def ref11_Name.l0 (J : Jn (AEnd × H)) (m0 : Nat) (x0 x3 : AV) (h : H) : Option (AEnd × H) := J [1, 0, 1, 0] [m0] ⟨[(0, x0), (3, x3)], [(0, 0), (3, 0)], [], h⟩
theorem ref11_Name.f_eq {call : Cl} {n : Nat} {J : Jn (AEnd × H)} (hJ : ref11_Name.F call n J) (x0 : AV) (h : H) : ref11_Name.f J x0 h =
  ref11_Name.l0 J n x0 (.int .i64 0) h := (hJ _ _ _ (by kernel_rfl)).trans (by kernel_rfl)
theorem ref11_Name.l0_eq {call : Cl} {n : Nat} {J : Jn (AEnd × H)} (hJ : ref11_Name.F call n J) (m0 : Nat) (x0 x3 : AV) (h : H) : ref11_Name.l0 J (m0 + 1) x0 x3 h =
  (lnStr x0).bind fun v1 =>
  (bin .lss x3 v1).bind fun v2 =>
  condV v2 (
    (ixStr x0 x3).bind fun v3 =>
    (call n_warrantorref11_more [AV.canon v3] h).bind fun p4 => retOr p4.1 (fun r5p => some (AEnd.pan r5p, p4.2)) fun r5 =>
    (unOp .not r5).bind fun v6 =>
    condV v6 (
      some (AEnd.ret (.bool false), p4.2)) (
      (bin .add x3 (.int .i64 1)).bind fun v7 =>
      ref11_Name.l0 J m0 x0 v7 p4.2)) (
    (lnStr x0).bind fun v8 =>
    (bin .gtr v8 (.int .i64 0)).bind fun v9 =>
    condV v9 (
      (lnStr x0).bind fun v10 =>
      (bin .leq v10 (.int .i64 32)).bind fun v11 =>
      condV v11 (
        (ixStr x0 (.int .i64 0)).bind fun v12 =>
        (call n_warrantorref11_letter [AV.canon v12] h).bind fun p13 => retOr p13.1 (fun r14p => some (AEnd.pan r14p, p13.2)) fun r14 =>
        some (AEnd.ret (AV.copy r14), p13.2)) (
        some (AEnd.ret (AV.copy (.bool false)), h))) (
      some (AEnd.ret (AV.copy (.bool false)), h))) := (hJ _ _ _ (by kernel_rfl)).trans (by kernel_rfl)
noncomputable def ref11_File.A : FAnn := { nv := 4, mv := [(3, 0), (6, 9)], ld := [], lst := [], obj := [], q := [], raw := [] }
noncomputable def ref11_File.an : Ann := .mk none .nil (.mk none (.mk none .nil (.mk none (.mk none (.mk (some [(0, 0), (3, 0)]) .nil (.mk none (.mk none (.mk none .nil (.mk (some [(0, 0), (3, 0), (26, 0)]) .nil .nil)) .nil) .nil)) .nil) .nil)) .nil)
noncomputable abbrev ref11_File.c : Code := Tryz.f100.body.getD .skip
noncomputable def ref11_File.J (call : Cl) (n : Nat) : Jn (AEnd × H) := realJ Tryz.prog ref11_File.A call Tryz.f100 ref11_File.an ref11_File.c n
abbrev ref11_File.F (call : Cl) (n : Nat) (J : Jn (AEnd × H)) : Prop := JFix Tryz.prog ref11_File.A call Tryz.f100 ref11_File.an ref11_File.c n J
def ref11_File.f (J : Jn (AEnd × H)) (x0 : AV) (h : H) : Option (AEnd × H) := J [] [] ⟨[(0, x0)], [], [], h⟩
def ref11_File.l0 (J : Jn (AEnd × H)) (m0 : Nat) (x0 x3 : AV) (h : H) : Option (AEnd × H) := J [1, 0, 1, 0] [m0] ⟨[(0, x0), (3, x3)], [(0, 0), (3, 0)], [], h⟩
def ref11_File.j0 (J : Jn (AEnd × H)) (m0 : Nat) (x0 x3 x26 : AV) (h : H) : Option (AEnd × H) := J [1, 0, 1, 0, 0, 1, 0, 0, 1] [m0] ⟨[(0, x0), (3, x3), (26, x26)], [(0, 0), (3, 0), (26, 0)], [], h⟩
theorem ref11_File.f_eq {call : Cl} {n : Nat} {J : Jn (AEnd × H)} (hJ : ref11_File.F call n J) (x0 : AV) (h : H) : ref11_File.f J x0 h =
  ref11_File.l0 J n x0 (.int .i64 0) h := (hJ _ _ _ (by kernel_rfl)).trans (by kernel_rfl)
theorem ref11_File.l0_eq {call : Cl} {n : Nat} {J : Jn (AEnd × H)} (hJ : ref11_File.F call n J) (m0 : Nat) (x0 x3 : AV) (h : H) : ref11_File.l0 J (m0 + 1) x0 x3 h =
  (lnStr x0).bind fun v1 =>
  (bin .lss x3 v1).bind fun v2 =>
  condV v2 (
    (ixStr x0 x3).bind fun v3 =>
    (call n_warrantorref11_more [AV.canon v3] h).bind fun p4 => retOr p4.1 (fun r5p => some (AEnd.pan r5p, p4.2)) fun r5 =>
    (unOp .not r5).bind fun v6 =>
    condV v6 (
      (ixStr x0 x3).bind fun v7 =>
      (bin .neq v7 (.int .u8 45)).bind fun v8 =>
      condV v8 (
        (ixStr x0 x3).bind fun v9 =>
        (bin .neq v9 (.int .u8 47)).bind fun v10 =>
        ref11_File.j0 J m0 x0 x3 v10 p4.2) (
        ref11_File.j0 J m0 x0 x3 (.bool false) p4.2)) (
      ref11_File.j0 J m0 x0 x3 (.bool false) p4.2)) (
    (lnStr x0).bind fun v11 =>
    (bin .gtr v11 (.int .i64 0)).bind fun v12 =>
    condV v12 (
      (lnStr x0).bind fun v13 =>
      (bin .leq v13 (.int .i64 64)).bind fun v14 =>
      condV v14 (
        (ixStr x0 (.int .i64 0)).bind fun v15 =>
        (call n_warrantorref11_letter [AV.canon v15] h).bind fun p16 => retOr p16.1 (fun r17p => some (AEnd.pan r17p, p16.2)) fun r17 =>
        some (AEnd.ret (AV.copy r17), p16.2)) (
        some (AEnd.ret (AV.copy (.bool false)), h))) (
      some (AEnd.ret (AV.copy (.bool false)), h))) := (hJ _ _ _ (by kernel_rfl)).trans (by kernel_rfl)
theorem ref11_File.j0_eq {call : Cl} {n : Nat} {J : Jn (AEnd × H)} (hJ : ref11_File.F call n J) (m0 : Nat) (x0 x3 x26 : AV) (h : H) : ref11_File.j0 J m0 x0 x3 x26 h =
  condV x26 (
    some (AEnd.ret (.bool false), h)) (
    (bin .add x3 (.int .i64 1)).bind fun v18 =>
    ref11_File.l0 J m0 x0 v18 h) := (hJ _ _ _ (by kernel_rfl)).trans (by kernel_rfl)
noncomputable def ref17_Expr.A : FAnn := { nv := 4, mv := [(3, 0), (6, 4)], ld := [], lst := [], obj := [], q := [], raw := [] }
noncomputable def ref17_Expr.an : Ann := .mk none .nil (.mk none (.mk none .nil (.mk none (.mk none (.mk (some [(0, 0), (3, 0)]) .nil (.mk none (.mk none (.mk none .nil (.mk (some [(0, 0), (3, 0), (19, 0)]) .nil .nil)) .nil) .nil)) .nil) .nil)) .nil)
noncomputable abbrev ref17_Expr.c : Code := Tryz.f101.body.getD .skip
noncomputable def ref17_Expr.J (call : Cl) (n : Nat) : Jn (AEnd × H) := realJ Tryz.prog ref17_Expr.A call Tryz.f101 ref17_Expr.an ref17_Expr.c n
abbrev ref17_Expr.F (call : Cl) (n : Nat) (J : Jn (AEnd × H)) : Prop := JFix Tryz.prog ref17_Expr.A call Tryz.f101 ref17_Expr.an ref17_Expr.c n J
def ref17_Expr.f (J : Jn (AEnd × H)) (x0 : AV) (h : H) : Option (AEnd × H) := J [] [] ⟨[(0, x0)], [], [], h⟩
def ref17_Expr.l0 (J : Jn (AEnd × H)) (m0 : Nat) (x0 x3 : AV) (h : H) : Option (AEnd × H) := J [1, 0, 1, 0] [m0] ⟨[(0, x0), (3, x3)], [(0, 0), (3, 0)], [], h⟩
def ref17_Expr.j0 (J : Jn (AEnd × H)) (m0 : Nat) (x0 x3 x19 : AV) (h : H) : Option (AEnd × H) := J [1, 0, 1, 0, 0, 1, 0, 0, 1] [m0] ⟨[(0, x0), (3, x3), (19, x19)], [(0, 0), (3, 0), (19, 0)], [], h⟩
theorem ref17_Expr.f_eq {call : Cl} {n : Nat} {J : Jn (AEnd × H)} (hJ : ref17_Expr.F call n J) (x0 : AV) (h : H) : ref17_Expr.f J x0 h =
  ref17_Expr.l0 J n x0 (.int .i64 0) h := (hJ _ _ _ (by kernel_rfl)).trans (by kernel_rfl)
theorem ref17_Expr.l0_eq {call : Cl} {n : Nat} {J : Jn (AEnd × H)} (hJ : ref17_Expr.F call n J) (m0 : Nat) (x0 x3 : AV) (h : H) : ref17_Expr.l0 J (m0 + 1) x0 x3 h =
  (lnStr x0).bind fun v1 =>
  (bin .lss x3 v1).bind fun v2 =>
  condV v2 (
    (ixStr x0 x3).bind fun v3 =>
    (bin .lss v3 (.int .u8 32)).bind fun v4 =>
    condV v4 (
      ref17_Expr.j0 J m0 x0 x3 (.bool true) h) (
      (ixStr x0 x3).bind fun v5 =>
      (bin .gtr v5 (.int .u8 126)).bind fun v6 =>
      ref17_Expr.j0 J m0 x0 x3 v6 h)) (
    (lnStr x0).bind fun v7 =>
    (bin .geq v7 (.int .i64 1)).bind fun v8 =>
    condV v8 (
      (lnStr x0).bind fun v9 =>
      (bin .leq v9 (.int .i64 128)).bind fun v10 =>
      some (AEnd.ret (AV.copy v10), h)) (
      some (AEnd.ret (AV.copy (.bool false)), h))) := (hJ _ _ _ (by kernel_rfl)).trans (by kernel_rfl)
theorem ref17_Expr.j0_eq {call : Cl} {n : Nat} {J : Jn (AEnd × H)} (hJ : ref17_Expr.F call n J) (m0 : Nat) (x0 x3 x19 : AV) (h : H) : ref17_Expr.j0 J m0 x0 x3 x19 h =
  condV x19 (
    some (AEnd.ret (.bool false), h)) (
    (bin .add x3 (.int .i64 1)).bind fun v11 =>
    ref17_Expr.l0 J m0 x0 v11 h) := (hJ _ _ _ (by kernel_rfl)).trans (by kernel_rfl)
noncomputable def slices_ContainsFunc_api_Change_api_Change.A : FAnn := { nv := 4, mv := [(1, 0), (1, 1)], ld := [], lst := [], obj := [], q := [], raw := [] }
noncomputable def slices_ContainsFunc_api_Change_api_Change.an : Ann := .nil
noncomputable abbrev slices_ContainsFunc_api_Change_api_Change.c : Code := Tryz.f102.body.getD .skip
noncomputable def slices_ContainsFunc_api_Change_api_Change.J (call : Cl) (n : Nat) : Jn (AEnd × H) := realJ Tryz.prog slices_ContainsFunc_api_Change_api_Change.A call Tryz.f102 slices_ContainsFunc_api_Change_api_Change.an slices_ContainsFunc_api_Change_api_Change.c n
abbrev slices_ContainsFunc_api_Change_api_Change.F (call : Cl) (n : Nat) (J : Jn (AEnd × H)) : Prop := JFix Tryz.prog slices_ContainsFunc_api_Change_api_Change.A call Tryz.f102 slices_ContainsFunc_api_Change_api_Change.an slices_ContainsFunc_api_Change_api_Change.c n J
def slices_ContainsFunc_api_Change_api_Change.f (J : Jn (AEnd × H)) (x0 x1 : AV) (h : H) : Option (AEnd × H) := J [] [] ⟨[(0, x0), (1, x1)], [], [], h⟩
theorem slices_ContainsFunc_api_Change_api_Change.f_eq {call : Cl} {n : Nat} {J : Jn (AEnd × H)} (hJ : slices_ContainsFunc_api_Change_api_Change.F call n J) (x0 x1 : AV) (h : H) : slices_ContainsFunc_api_Change_api_Change.f J x0 x1 h =
  (call n_slices_IndexFunc_api_Change_api_Change [AV.canon x0, AV.canon x1] h).bind fun p1 => retOr p1.1 (fun r2p => some (AEnd.pan r2p, p1.2)) fun r2 =>
  (bin .geq r2 (.int .i64 0)).bind fun v3 =>
  some (AEnd.ret (AV.copy v3), p1.2) := (hJ _ _ _ (by kernel_rfl)).trans (by kernel_rfl)
end Go.Proofs.YtdlnkfghgbddhaaGreat
