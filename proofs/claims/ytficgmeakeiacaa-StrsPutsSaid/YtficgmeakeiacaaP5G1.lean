import Derived.Test.YtficgmeakeiacaaVa5
import Derived.Test.YtficgmeakeiacaaProg
import Derived.Test.YtficgmeakeiacaaP5N
set_option linter.all false
open Go Go.Ve Go.Proofs
namespace Go.Proofs.Ytficgmeakeiacaa
set_option maxRecDepth 100000
noncomputable def law05_StrsPuts.A : FAnn := { nv := 8, mv := [(6, 0), (7, 0), (9, 7), (9, 11), (9, 12), (9, 17), (9, 18)], ld := [], lst := [], obj := [], q := [12, 13], raw := [] }
noncomputable def law05_StrsPuts.an : Ann := .mk none .nil (.mk none (.mk none .nil (.mk (some [(0, 0), (19, 0)]) .nil .nil)) (.mk (some [(0, 0)]) .nil (.mk none (.mk none .nil (.mk (some [(0, 0), (3, 1), (4, 1), (39, 0)]) .nil .nil)) (.mk (some [(0, 0), (3, 1), (4, 1)]) .nil .nil))))
noncomputable abbrev law05_StrsPuts.c : Code := Try.f3.body.getD .skip
noncomputable def law05_StrsPuts.J (call : Cl) (n : Nat) : Jn (AEnd × H) := realJ Try.prog law05_StrsPuts.A call Try.f3 law05_StrsPuts.an law05_StrsPuts.c n
abbrev law05_StrsPuts.F (call : Cl) (n : Nat) (J : Jn (AEnd × H)) : Prop := JFix Try.prog law05_StrsPuts.A call Try.f3 law05_StrsPuts.an law05_StrsPuts.c n J
def law05_StrsPuts.f (J : Jn (AEnd × H)) (x0 : AV) (h : H) : Option (AEnd × H) := J [] [] ⟨[(0, x0)], [], [], h⟩
def law05_StrsPuts.j1 (J : Jn (AEnd × H)) (x0 x19 : AV) (h : H) : Option (AEnd × H) := J [1, 0, 1] [] ⟨[(0, x0), (19, x19)], [(0, 0), (19, 0)], [], h⟩
def law05_StrsPuts.j0 (J : Jn (AEnd × H)) (x0 : AV) (h : H) : Option (AEnd × H) := J [1, 1] [] ⟨[(0, x0)], [(0, 0)], [], h⟩
def law05_StrsPuts.j3 (J : Jn (AEnd × H)) (x0 x3 x4 x39 : AV) (h : H) : Option (AEnd × H) := J [1, 1, 1, 0, 1] [] ⟨[(0, x0), (3, x3), (4, x4), (39, x39)], [(0, 0), (3, 1), (4, 1), (39, 0)], [], h⟩
def law05_StrsPuts.j2 (J : Jn (AEnd × H)) (x0 x3 x4 : AV) (h : H) : Option (AEnd × H) := J [1, 1, 1, 1] [] ⟨[(0, x0), (3, x3), (4, x4)], [(0, 0), (3, 1), (4, 1)], [], h⟩
theorem law05_StrsPuts.f_eq {call : Cl} {n : Nat} {J : Jn (AEnd × H)} (hJ : law05_StrsPuts.F call n J) (x0 : AV) (h : H) : law05_StrsPuts.f J x0 h =
  (lnSl x0).bind fun v1 =>
  (bin .gtr v1 (.int .i64 5000)).bind fun v2 =>
  condV v2 (
    law05_StrsPuts.j1 J  x0 (.bool true) h) (
    (lnSl x0).bind fun v3 =>
    (bin .leq v3 (.int .i64 4096)).bind fun v4 =>
    condV v4 (
      (call n_warrantorref05_Large [AV.canon x0] h).bind fun p5 => retOr p5.1 (fun r6p => some (AEnd.pan r6p, p5.2)) fun r6 =>
      law05_StrsPuts.j1 J  x0 r6 p5.2) (
      law05_StrsPuts.j1 J  x0 (.bool false) h)) := (hJ _ _ _ (by kernel_rfl)).trans (by kernel_rfl)
theorem law05_StrsPuts.j1_eq {call : Cl} {n : Nat} {J : Jn (AEnd × H)} (hJ : law05_StrsPuts.F call n J) (x0 x19 : AV) (h : H) : law05_StrsPuts.j1 J  x0 x19 h =
  condV x19 (
    (call n_warrantorlaw05_lives [] h).bind fun p7 => retOr p7.1 (fun r8p => some (AEnd.pan r8p, p7.2)) fun r8 =>
    some (AEnd.ret r8, p7.2)) (
    law05_StrsPuts.j0 J  x0 h) := (hJ _ _ _ (by kernel_rfl)).trans (by kernel_rfl)
theorem law05_StrsPuts.j0_eq {call : Cl} {n : Nat} {J : Jn (AEnd × H)} (hJ : law05_StrsPuts.F call n J) (x0 : AV) (h : H) : law05_StrsPuts.j0 J  x0 h =
  (call n_strs_Put [AV.canon x0] h).bind fun p9 => retOr p9.1 (fun r10p => some (AEnd.pan r10p, p9.2)) fun r10 =>
  (exTuple 0 r10).bind fun v11 =>
  (exTuple 1 r10).bind fun v12 =>
  (call n_warrantorlaw05_lives [] p9.2).bind fun p13 => retOr p13.1 (fun r14p => some (AEnd.pan r14p, p13.2)) fun r14 =>
  (unOp .not r14).bind fun v15 =>
  condV v15 (
    law05_StrsPuts.j3 J  x0 v11 v12 (.bool true) p13.2) (
    (call n_warrantorref05_Check [AV.canon x0] p13.2).bind fun p16 => retOr p16.1 (fun r17p => some (AEnd.pan r17p, p16.2)) fun r17 =>
    (bin .neq v12 r17).bind fun v18 =>
    condV v18 (
      law05_StrsPuts.j3 J  x0 v11 v12 (.bool true) p16.2) (
      (call n_strs_Check [AV.canon x0] p16.2).bind fun p19 => retOr p19.1 (fun r20p => some (AEnd.pan r20p, p19.2)) fun r20 =>
      (bin .neq r20 v12).bind fun v21 =>
      law05_StrsPuts.j3 J  x0 v11 v12 v21 p19.2)) := (hJ _ _ _ (by kernel_rfl)).trans (by kernel_rfl)
theorem law05_StrsPuts.j3_eq {call : Cl} {n : Nat} {J : Jn (AEnd × H)} (hJ : law05_StrsPuts.F call n J) (x0 x3 x4 x39 : AV) (h : H) : law05_StrsPuts.j3 J  x0 x3 x4 x39 h =
  condV x39 (
    some (AEnd.ret (.bool false), h)) (
    law05_StrsPuts.j2 J  x0 x3 x4 h) := (hJ _ _ _ (by kernel_rfl)).trans (by kernel_rfl)
theorem law05_StrsPuts.j2_eq {call : Cl} {n : Nat} {J : Jn (AEnd × H)} (hJ : law05_StrsPuts.F call n J) (x0 x3 x4 : AV) (h : H) : law05_StrsPuts.j2 J  x0 x3 x4 h =
  (bin .neq x4 (.int .i64 0)).bind fun v22 =>
  condV v22 (
    (lnSl x3).bind fun v23 =>
    (bin .eql v23 (.int .i64 0)).bind fun v24 =>
    some (AEnd.ret (AV.copy v24), h)) (
    (call n_strs_Get [AV.canon x3] h).bind fun p25 => retOr p25.1 (fun r26p => some (AEnd.pan r26p, p25.2)) fun r26 =>
    (exTuple 0 r26).bind fun v27 =>
    (exTuple 1 r26).bind fun v28 =>
    (exTuple 2 r26).bind fun v29 =>
    (bytesStr p25.2 x3).bind fun v30 =>
    (call n_warrantorref05_Put [AV.canon x0] p25.2).bind fun p31 => retOr p31.1 (fun _ => none) fun r32 =>
    (bytesStr p31.2 r32).bind fun v33 =>
    (bin .eql v30 v33).bind fun v34 =>
    condV v34 (
      (bin .eql v29 (.int .i64 0)).bind fun v35 =>
      condV v35 (
        (lnSl x3).bind fun v36 =>
        (bin .eql v28 v36).bind fun v37 =>
        condV v37 (
          (call n_warrantorref05_Same [AV.canon x0, AV.canon v27] p31.2).bind fun p38 => retOr p38.1 (fun _ => none) fun r39 =>
          some (AEnd.ret (AV.copy r39), p38.2)) (
          some (AEnd.ret (AV.copy (.bool false)), p31.2))) (
        some (AEnd.ret (AV.copy (.bool false)), p31.2))) (
      some (AEnd.ret (AV.copy (.bool false)), p31.2))) := (hJ _ _ _ (by kernel_rfl)).trans (by kernel_rfl)
noncomputable def law05_StrsOf.A : FAnn := { nv := 16, mv := [(7, 1), (8, 2), (8, 8), (8, 9), (8, 13), (8, 14), (8, 18), (8, 19), (8, 23), (8, 24), (8, 31), (8, 32)], ld := [], lst := [], obj := [], q := [], raw := [] }
noncomputable def law05_StrsOf.an : Ann := .mk none .nil (.mk none (.mk none .nil (.mk (some [(0, 0), (1, 0), (2, 0), (26, 0)]) .nil .nil)) (.mk (some [(0, 0), (1, 0), (2, 0)]) .nil .nil))
noncomputable abbrev law05_StrsOf.c : Code := Try.f4.body.getD .skip
noncomputable def law05_StrsOf.J (call : Cl) (n : Nat) : Jn (AEnd × H) := realJ Try.prog law05_StrsOf.A call Try.f4 law05_StrsOf.an law05_StrsOf.c n
abbrev law05_StrsOf.F (call : Cl) (n : Nat) (J : Jn (AEnd × H)) : Prop := JFix Try.prog law05_StrsOf.A call Try.f4 law05_StrsOf.an law05_StrsOf.c n J
def law05_StrsOf.f (J : Jn (AEnd × H)) (x0 x1 x2 : AV) (h : H) : Option (AEnd × H) := J [] [] ⟨[(0, x0), (1, x1), (2, x2)], [], [], h⟩
def law05_StrsOf.j1 (J : Jn (AEnd × H)) (x0 x1 x2 x26 : AV) (h : H) : Option (AEnd × H) := J [1, 0, 1] [] ⟨[(0, x0), (1, x1), (2, x2), (26, x26)], [(0, 0), (1, 0), (2, 0), (26, 0)], [], h⟩
def law05_StrsOf.j0 (J : Jn (AEnd × H)) (x0 x1 x2 : AV) (h : H) : Option (AEnd × H) := J [1, 1] [] ⟨[(0, x0), (1, x1), (2, x2)], [(0, 0), (1, 0), (2, 0)], [], h⟩
theorem law05_StrsOf.f_eq {call : Cl} {n : Nat} {J : Jn (AEnd × H)} (hJ : law05_StrsOf.F call n J) (x0 x1 x2 : AV) (h : H) : law05_StrsOf.f J x0 x1 x2 h =
  (call n_warrantorref05_Large [AV.canon x0] h).bind fun p1 => retOr p1.1 (fun r2p => some (AEnd.pan r2p, p1.2)) fun r2 =>
  condV r2 (
    law05_StrsOf.j1 J  x0 x1 x2 (.bool true) p1.2) (
    (call n_warrantorref05_Large [AV.canon x2] p1.2).bind fun p3 => retOr p3.1 (fun r4p => some (AEnd.pan r4p, p3.2)) fun r4 =>
    condV r4 (
      law05_StrsOf.j1 J  x0 x1 x2 (.bool true) p3.2) (
      (lnStr x1).bind fun v5 =>
      (bin .gtr v5 (.int .i64 400)).bind fun v6 =>
      law05_StrsOf.j1 J  x0 x1 x2 v6 p3.2)) := (hJ _ _ _ (by kernel_rfl)).trans (by kernel_rfl)
theorem law05_StrsOf.j1_eq {call : Cl} {n : Nat} {J : Jn (AEnd × H)} (hJ : law05_StrsOf.F call n J) (x0 x1 x2 x26 : AV) (h : H) : law05_StrsOf.j1 J  x0 x1 x2 x26 h =
  condV x26 (
    (call n_warrantorlaw05_lives [] h).bind fun p7 => retOr p7.1 (fun r8p => some (AEnd.pan r8p, p7.2)) fun r8 =>
    some (AEnd.ret r8, p7.2)) (
    law05_StrsOf.j0 J  x0 x1 x2 h) := (hJ _ _ _ (by kernel_rfl)).trans (by kernel_rfl)
theorem law05_StrsOf.j0_eq {call : Cl} {n : Nat} {J : Jn (AEnd × H)} (hJ : law05_StrsOf.F call n J) (x0 x1 x2 : AV) (h : H) : law05_StrsOf.j0 J  x0 x1 x2 h =
  (call n_strs_Of [AV.canon x0] h).bind fun p9 => retOr p9.1 (fun r10p => some (AEnd.pan r10p, p9.2)) fun r10 =>
  (call n_strs_Find [AV.canon r10, AV.canon x1] p9.2).bind fun p11 => retOr p11.1 (fun r12p => some (AEnd.pan r12p, p11.2)) fun r12 =>
  (exTuple 0 r12).bind fun v13 =>
  (exTuple 1 r12).bind fun v14 =>
  (call n_warrantorref05_Of [AV.canon x0] p11.2).bind fun p15 => retOr p15.1 (fun r16p => some (AEnd.pan r16p, p15.2)) fun r16 =>
  (call n_warrantorref05_Find [AV.canon r16, AV.canon x1] p15.2).bind fun p17 => retOr p17.1 (fun r18p => some (AEnd.pan r18p, p17.2)) fun r18 =>
  (exTuple 0 r18).bind fun v19 =>
  (exTuple 1 r18).bind fun v20 =>
  (call n_strs_Find [AV.canon x2, AV.canon x1] p17.2).bind fun p21 => retOr p21.1 (fun r22p => some (AEnd.pan r22p, p21.2)) fun r22 =>
  (exTuple 0 r22).bind fun v23 =>
  (exTuple 1 r22).bind fun v24 =>
  (call n_warrantorref05_Find [AV.canon x2, AV.canon x1] p21.2).bind fun p25 => retOr p25.1 (fun r26p => some (AEnd.pan r26p, p25.2)) fun r26 =>
  (exTuple 0 r26).bind fun v27 =>
  (exTuple 1 r26).bind fun v28 =>
  (call n_warrantorlaw05_lives [] p25.2).bind fun p29 => retOr p29.1 (fun r30p => some (AEnd.pan r30p, p29.2)) fun r30 =>
  condV r30 (
    (call n_warrantorref05_Of [AV.canon x0] p29.2).bind fun p31 => retOr p31.1 (fun r32p => some (AEnd.pan r32p, p31.2)) fun r32 =>
    (call n_warrantorref05_Same [AV.canon r10, AV.canon r32] p31.2).bind fun p33 => retOr p33.1 (fun r34p => some (AEnd.pan r34p, p33.2)) fun r34 =>
    condV r34 (
      (bin .eql v13 v19).bind fun v35 =>
      condV v35 (
        (binBool .eql v14 v20).bind fun v36 =>
        condV v36 (
          (bin .eql v23 v27).bind fun v37 =>
          condV v37 (
            (binBool .eql v24 v28).bind fun v38 =>
            condV v38 (
              (call n_strs_Same [AV.canon x0, AV.canon x2] p33.2).bind fun p39 => retOr p39.1 (fun r40p => some (AEnd.pan r40p, p39.2)) fun r40 =>
              (call n_warrantorref05_Same [AV.canon x0, AV.canon x2] p39.2).bind fun p41 => retOr p41.1 (fun r42p => some (AEnd.pan r42p, p41.2)) fun r42 =>
              (binBool .eql r40 r42).bind fun v43 =>
              some (AEnd.ret (AV.copy v43), p41.2)) (
              some (AEnd.ret (AV.copy (.bool false)), p33.2))) (
            some (AEnd.ret (AV.copy (.bool false)), p33.2))) (
          some (AEnd.ret (AV.copy (.bool false)), p33.2))) (
        some (AEnd.ret (AV.copy (.bool false)), p33.2))) (
      some (AEnd.ret (AV.copy (.bool false)), p33.2))) (
    some (AEnd.ret (AV.copy (.bool false)), p29.2)) := (hJ _ _ _ (by kernel_rfl)).trans (by kernel_rfl)
noncomputable def law05_StrsJoins.A : FAnn := { nv := 8, mv := [(4, 0), (4, 2), (5, 22), (5, 24), (5, 26)], ld := [], lst := [], obj := [], q := [], raw := [] }
noncomputable def law05_StrsJoins.an : Ann := .mk none .nil (.mk none (.mk none .nil (.mk (some [(0, 0), (1, 0), (13, 0)]) .nil .nil)) (.mk (some [(0, 0), (1, 0)]) .nil .nil))
noncomputable abbrev law05_StrsJoins.c : Code := Try.f5.body.getD .skip
noncomputable def law05_StrsJoins.J (call : Cl) (n : Nat) : Jn (AEnd × H) := realJ Try.prog law05_StrsJoins.A call Try.f5 law05_StrsJoins.an law05_StrsJoins.c n
abbrev law05_StrsJoins.F (call : Cl) (n : Nat) (J : Jn (AEnd × H)) : Prop := JFix Try.prog law05_StrsJoins.A call Try.f5 law05_StrsJoins.an law05_StrsJoins.c n J
def law05_StrsJoins.f (J : Jn (AEnd × H)) (x0 x1 : AV) (h : H) : Option (AEnd × H) := J [] [] ⟨[(0, x0), (1, x1)], [], [], h⟩
def law05_StrsJoins.j1 (J : Jn (AEnd × H)) (x0 x1 x13 : AV) (h : H) : Option (AEnd × H) := J [1, 0, 1] [] ⟨[(0, x0), (1, x1), (13, x13)], [(0, 0), (1, 0), (13, 0)], [], h⟩
def law05_StrsJoins.j0 (J : Jn (AEnd × H)) (x0 x1 : AV) (h : H) : Option (AEnd × H) := J [1, 1] [] ⟨[(0, x0), (1, x1)], [(0, 0), (1, 0)], [], h⟩
theorem law05_StrsJoins.f_eq {call : Cl} {n : Nat} {J : Jn (AEnd × H)} (hJ : law05_StrsJoins.F call n J) (x0 x1 : AV) (h : H) : law05_StrsJoins.f J x0 x1 h =
  (call n_warrantorref05_Large [AV.canon x0] h).bind fun p1 => retOr p1.1 (fun r2p => some (AEnd.pan r2p, p1.2)) fun r2 =>
  condV r2 (
    law05_StrsJoins.j1 J  x0 x1 (.bool true) p1.2) (
    (call n_warrantorref05_Large [AV.canon x1] p1.2).bind fun p3 => retOr p3.1 (fun r4p => some (AEnd.pan r4p, p3.2)) fun r4 =>
    law05_StrsJoins.j1 J  x0 x1 r4 p3.2) := (hJ _ _ _ (by kernel_rfl)).trans (by kernel_rfl)
theorem law05_StrsJoins.j1_eq {call : Cl} {n : Nat} {J : Jn (AEnd × H)} (hJ : law05_StrsJoins.F call n J) (x0 x1 x13 : AV) (h : H) : law05_StrsJoins.j1 J  x0 x1 x13 h =
  condV x13 (
    (call n_warrantorlaw05_lives [] h).bind fun p5 => retOr p5.1 (fun r6p => some (AEnd.pan r6p, p5.2)) fun r6 =>
    some (AEnd.ret r6, p5.2)) (
    law05_StrsJoins.j0 J  x0 x1 h) := (hJ _ _ _ (by kernel_rfl)).trans (by kernel_rfl)
theorem law05_StrsJoins.j0_eq {call : Cl} {n : Nat} {J : Jn (AEnd × H)} (hJ : law05_StrsJoins.F call n J) (x0 x1 : AV) (h : H) : law05_StrsJoins.j0 J  x0 x1 h =
  (mkRows 1 [.str []] 0 []).bind fun v7 =>
  (apSlice 1 16 false false h v7 x0).bind fun v8 =>
  (apSlice 1 16 false true h v8 x1).bind fun v9 =>
  (call n_strs_Of [AV.canon v9] h).bind fun p10 => retOr p10.1 (fun r11p => some (AEnd.pan r11p, p10.2)) fun r11 =>
  (call n_strs_Of [AV.canon x0] p10.2).bind fun p12 => retOr p12.1 (fun r13p => some (AEnd.pan r13p, p12.2)) fun r13 =>
  (call n_strs_Of [AV.canon x1] p12.2).bind fun p14 => retOr p14.1 (fun r15p => some (AEnd.pan r15p, p14.2)) fun r15 =>
  (call n_warrantorlaw05_lives [] p14.2).bind fun p16 => retOr p16.1 (fun r17p => some (AEnd.pan r17p, p16.2)) fun r17 =>
  condV r17 (
    (mkRows 1 [.str []] 0 []).bind fun v18 =>
    (apSlice 1 16 false false p16.2 v18 r13).bind fun v19 =>
    (apSlice 1 16 false true p16.2 v19 r15).bind fun v20 =>
    (call n_strs_Of [AV.canon v20] p16.2).bind fun p21 => retOr p21.1 (fun r22p => some (AEnd.pan r22p, p21.2)) fun r22 =>
    (call n_warrantorref05_Same [AV.canon r11, AV.canon r22] p21.2).bind fun p23 => retOr p23.1 (fun r24p => some (AEnd.pan r24p, p23.2)) fun r24 =>
    condV r24 (
      (mkRows 1 [.str []] 0 []).bind fun v25 =>
      (apSlice 1 16 false false p23.2 v25 r15).bind fun v26 =>
      (apSlice 1 16 false true p23.2 v26 r11).bind fun v27 =>
      (call n_strs_Of [AV.canon v27] p23.2).bind fun p28 => retOr p28.1 (fun r29p => some (AEnd.pan r29p, p28.2)) fun r29 =>
      (call n_warrantorref05_Same [AV.canon r11, AV.canon r29] p28.2).bind fun p30 => retOr p30.1 (fun r31p => some (AEnd.pan r31p, p30.2)) fun r31 =>
      condV r31 (
        (lnSl r11).bind fun v32 =>
        (lnSl r13).bind fun v33 =>
        (lnSl r15).bind fun v34 =>
        (bin .add v33 v34).bind fun v35 =>
        (bin .leq v32 v35).bind fun v36 =>
        some (AEnd.ret (AV.copy v36), p30.2)) (
        some (AEnd.ret (AV.copy (.bool false)), p30.2))) (
      some (AEnd.ret (AV.copy (.bool false)), p23.2))) (
    some (AEnd.ret (AV.copy (.bool false)), p16.2)) := (hJ _ _ _ (by kernel_rfl)).trans (by kernel_rfl)
noncomputable def ref05_Large.A : FAnn := { nv := 4, mv := [(5, 0)], ld := [], lst := [], obj := [], q := [], raw := [] }
noncomputable def ref05_Large.an : Ann := .mk none .nil (.mk none .nil (.mk none (.mk none .nil (.mk none (.mk none (.mk (some [(0, 0), (3, 0)]) .nil .nil) .nil) .nil)) .nil))
noncomputable abbrev ref05_Large.c : Code := Try.f6.body.getD .skip
noncomputable def ref05_Large.J (call : Cl) (n : Nat) : Jn (AEnd × H) := realJ Try.prog ref05_Large.A call Try.f6 ref05_Large.an ref05_Large.c n
abbrev ref05_Large.F (call : Cl) (n : Nat) (J : Jn (AEnd × H)) : Prop := JFix Try.prog ref05_Large.A call Try.f6 ref05_Large.an ref05_Large.c n J
def ref05_Large.f (J : Jn (AEnd × H)) (x0 : AV) (h : H) : Option (AEnd × H) := J [] [] ⟨[(0, x0)], [], [], h⟩
def ref05_Large.l0 (J : Jn (AEnd × H)) (m0 : Nat) (x0 x3 : AV) (h : H) : Option (AEnd × H) := J [1, 1, 0, 1, 0] [m0] ⟨[(0, x0), (3, x3)], [(0, 0), (3, 0)], [], h⟩
theorem ref05_Large.f_eq {call : Cl} {n : Nat} {J : Jn (AEnd × H)} (hJ : ref05_Large.F call n J) (x0 : AV) (h : H) : ref05_Large.f J x0 h =
  (lnSl x0).bind fun v1 =>
  (bin .gtr v1 (.int .i64 200)).bind fun v2 =>
  condV v2 (
    some (AEnd.ret (.bool true), h)) (
    ref05_Large.l0 J n x0 (.int .i64 0) h) := (hJ _ _ _ (by kernel_rfl)).trans (by kernel_rfl)
theorem ref05_Large.l0_eq {call : Cl} {n : Nat} {J : Jn (AEnd × H)} (hJ : ref05_Large.F call n J) (m0 : Nat) (x0 x3 : AV) (h : H) : ref05_Large.l0 J (m0 + 1) x0 x3 h =
  (lnSl x0).bind fun v3 =>
  (bin .lss x3 v3).bind fun v4 =>
  condV v4 (
    (ixSlice 1 x0 x3).bind fun v5 =>
    (ldCell h v5).bind fun v6 =>
    (lnStr v6).bind fun v7 =>
    (bin .gtr v7 (.int .i64 400)).bind fun v8 =>
    condV v8 (
      some (AEnd.ret (.bool true), h)) (
      (bin .add x3 (.int .i64 1)).bind fun v9 =>
      ref05_Large.l0 J m0 x0 v9 h)) (
    some (AEnd.ret (.bool false), h)) := (hJ _ _ _ (by kernel_rfl)).trans (by kernel_rfl)
noncomputable def law05_lives.A : FAnn := { nv := 14, mv := [(7, 4), (7, 8), (7, 13), (7, 17), (7, 26), (7, 30), (7, 33), (7, 37), (7, 46), (7, 47)], ld := [], lst := [], obj := [], q := [], raw := [] }
noncomputable def law05_lives.an : Ann := .nil
noncomputable abbrev law05_lives.c : Code := Try.f7.body.getD .skip
noncomputable def law05_lives.J (call : Cl) (n : Nat) : Jn (AEnd × H) := realJ Try.prog law05_lives.A call Try.f7 law05_lives.an law05_lives.c n
abbrev law05_lives.F (call : Cl) (n : Nat) (J : Jn (AEnd × H)) : Prop := JFix Try.prog law05_lives.A call Try.f7 law05_lives.an law05_lives.c n J
def law05_lives.f (J : Jn (AEnd × H)) (h : H) : Option (AEnd × H) := J [] [] ⟨[], [], [], h⟩
theorem law05_lives.f_eq {call : Cl} {n : Nat} {J : Jn (AEnd × H)} (hJ : law05_lives.F call n J) (h : H) : law05_lives.f J  h =
  (mkRows 1 [.str []] 4 [(0, .str [98]), (1, .str [97, 98]), (2, .str [97, 98, 99]), (3, .str [98])]).bind fun v1 =>
  (call n_strs_Of [AV.canon v1] h).bind fun p2 => retOr p2.1 (fun r3p => some (AEnd.pan r3p, p2.2)) fun r3 =>
  (call n_strs_Put [AV.canon r3] p2.2).bind fun p4 => retOr p4.1 (fun r5p => some (AEnd.pan r5p, p4.2)) fun r5 =>
  (exTuple 0 r5).bind fun v6 =>
  (exTuple 1 r5).bind fun v7 =>
  (call n_strs_Get [AV.canon v6] p4.2).bind fun p8 => retOr p8.1 (fun r9p => some (AEnd.pan r9p, p8.2)) fun r9 =>
  (exTuple 0 r9).bind fun v10 =>
  (exTuple 1 r9).bind fun v11 =>
  (exTuple 2 r9).bind fun v12 =>
  (call n_strs_Find [AV.canon r3, AV.canon (.str [98])] p8.2).bind fun p13 => retOr p13.1 (fun r14p => some (AEnd.pan r14p, p13.2)) fun r14 =>
  (exTuple 0 r14).bind fun v15 =>
  (exTuple 1 r14).bind fun v16 =>
  (mkRows 1 [.int .u8 0] 8 [(0, .int .u8 2), (1, .int .u8 0), (2, .int .u8 1), (3, .int .u8 97), (4, .int .u8 0), (5, .int .u8 2), (6, .int .u8 97), (7, .int .u8 98)]).bind fun v17 =>
  (call n_strs_Get [AV.canon v17] p13.2).bind fun p18 => retOr p18.1 (fun r19p => some (AEnd.pan r19p, p18.2)) fun r19 =>
  (exTuple 0 r19).bind fun v20 =>
  (exTuple 1 r19).bind fun v21 =>
  (exTuple 2 r19).bind fun v22 =>
  (mkRows 1 [.str []] 2 [(0, .str [98]), (1, .str [97])]).bind fun v23 =>
  (call n_strs_Put [AV.canon v23] p18.2).bind fun p24 => retOr p24.1 (fun r25p => some (AEnd.pan r25p, p24.2)) fun r25 =>
  (exTuple 0 r25).bind fun v26 =>
  (exTuple 1 r25).bind fun v27 =>
  (mkRows 1 [.str []] 3 [(0, .str [97, 98]), (1, .str [97, 98, 99]), (2, .str [98])]).bind fun v28 =>
  (call n_warrantorref05_Same [AV.canon r3, AV.canon v28] p24.2).bind fun p29 => retOr p29.1 (fun r30p => some (AEnd.pan r30p, p29.2)) fun r30 =>
  condV r30 (
    (bin .eql v7 (.int .i64 0)).bind fun v31 =>
    condV v31 (
      (bytesStr p29.2 v6).bind fun v32 =>
      (bin .eql v32 (.str [3, 0, 2, 97, 98, 2, 1, 99, 0, 1, 98])).bind fun v33 =>
      condV v33 (
        (bin .eql v12 (.int .i64 0)).bind fun v34 =>
        condV v34 (
          (bin .eql v11 (.int .i64 11)).bind fun v35 =>
          condV v35 (
            (call n_warrantorref05_Same [AV.canon r3, AV.canon v10] p29.2).bind fun p36 => retOr p36.1 (fun r37p => some (AEnd.pan r37p, p36.2)) fun r37 =>
            condV r37 (
              (bin .eql v15 (.int .i64 2)).bind fun v38 =>
              condV v38 (
                condV v16 (
                  (bin .eql v22 (.int .i64 50)).bind fun v39 =>
                  condV v39 (
                    (bin .eql v27 (.int .i64 50)).bind fun v40 =>
                    condV v40 (
                      (call n_strs_Check [AV.canon r3] p36.2).bind fun p41 => retOr p41.1 (fun r42p => some (AEnd.pan r42p, p41.2)) fun r42 =>
                      (bin .eql r42 (.int .i64 0)).bind fun v43 =>
                      condV v43 (
                        (call n_strs_Same [AV.canon r3, AV.canon v10] p41.2).bind fun p44 => retOr p44.1 (fun r45p => some (AEnd.pan r45p, p44.2)) fun r45 =>
                        some (AEnd.ret (AV.copy r45), p44.2)) (
                        some (AEnd.ret (AV.copy (.bool false)), p41.2))) (
                      some (AEnd.ret (AV.copy (.bool false)), p36.2))) (
                    some (AEnd.ret (AV.copy (.bool false)), p36.2))) (
                  some (AEnd.ret (AV.copy (.bool false)), p36.2))) (
                some (AEnd.ret (AV.copy (.bool false)), p36.2))) (
              some (AEnd.ret (AV.copy (.bool false)), p36.2))) (
            some (AEnd.ret (AV.copy (.bool false)), p29.2))) (
          some (AEnd.ret (AV.copy (.bool false)), p29.2))) (
        some (AEnd.ret (AV.copy (.bool false)), p29.2))) (
      some (AEnd.ret (AV.copy (.bool false)), p29.2))) (
    some (AEnd.ret (AV.copy (.bool false)), p29.2)) := (hJ _ _ _ (by kernel_rfl)).trans (by kernel_rfl)
noncomputable def strs_Put.A : FAnn := { nv := 10, mv := [(3, 0), (7, 0), (10, 0), (12, 2), (13, 0), (15, 0)], ld := [], lst := [], obj := [], q := [], raw := [] }
noncomputable def strs_Put.an : Ann := .mk none .nil (.mk none .nil (.mk none .nil (.mk none .nil (.mk none .nil (.mk none (.mk none .nil (.mk none (.mk none (.mk (some [(5, 255), (6, 0), (21, 0), (22, 0), (23, 0)]) .nil .nil) .nil) .nil)) .nil)))))
noncomputable abbrev strs_Put.c : Code := Try.f8.body.getD .skip
noncomputable def strs_Put.J (call : Cl) (n : Nat) : Jn (AEnd × H) := realJ Try.prog strs_Put.A call Try.f8 strs_Put.an strs_Put.c n
abbrev strs_Put.F (call : Cl) (n : Nat) (J : Jn (AEnd × H)) : Prop := JFix Try.prog strs_Put.A call Try.f8 strs_Put.an strs_Put.c n J
def strs_Put.f (J : Jn (AEnd × H)) (x0 : AV) (h : H) : Option (AEnd × H) := J [] [] ⟨[(0, x0)], [], [], h⟩
def strs_Put.l0 (J : Jn (AEnd × H)) (m0 : Nat) (x5 x6 x21 x22 x23 : AV) (h : H) : Option (AEnd × H) := J [1, 1, 1, 1, 1, 0, 1, 0] [m0] ⟨[(5, x5), (6, x6), (21, x21), (22, x22), (23, x23)], [(5, 255), (6, 0), (21, 0), (22, 0), (23, 0)], [], h⟩
theorem strs_Put.f_eq {call : Cl} {n : Nat} {J : Jn (AEnd × H)} (hJ : strs_Put.F call n J) (x0 : AV) (h : H) : strs_Put.f J x0 h =
  (call n_strs_Check [AV.canon x0] h).bind fun p1 => retOr p1.1 (fun r2p => some (AEnd.pan r2p, p1.2)) fun r2 =>
  (bin .neq r2 (.int .i64 0)).bind fun v3 =>
  condV v3 (
    some (AEnd.ret (.tuple [(.list [] .cap), r2]), p1.2)) (
    (call n_cur_New [] p1.2).bind fun p4 => retOr p4.1 (fun r5p => some (AEnd.pan r5p, p4.2)) fun r5 =>
    (lnSl x0).bind fun v6 =>
    (cvInt .u64 v6).bind fun v7 =>
    (call n_cur_Pen_U [AV.canon r5, AV.canon v7] p4.2).bind fun p8 => retOr p8.1 (fun r9p => some (AEnd.pan r9p, p8.2)) fun r9 =>
    (lnSl x0).bind fun v10 =>
    strs_Put.l0 J n r5 (.str []) x0 v10 (.int .i64 0) p8.2) := (hJ _ _ _ (by kernel_rfl)).trans (by kernel_rfl)
theorem strs_Put.l0_eq {call : Cl} {n : Nat} {J : Jn (AEnd × H)} (hJ : strs_Put.F call n J) (m0 : Nat) (x5 x6 x21 x22 x23 : AV) (h : H) : strs_Put.l0 J (m0 + 1) x5 x6 x21 x22 x23 h =
  (bin .lss x23 x22).bind fun v11 =>
  condV v11 (
    (ixSlice 1 x21 x23).bind fun v12 =>
    (ldCell h v12).bind fun v13 =>
    (call n_strs_shares [AV.canon x6, AV.canon v13] h).bind fun p14 => retOr p14.1 (fun r15p => some (AEnd.pan r15p, p14.2)) fun r15 =>
    (cvInt .u64 r15).bind fun v16 =>
    (call n_cur_Pen_U [AV.canon x5, AV.canon v16] p14.2).bind fun p17 => retOr p17.1 (fun r18p => some (AEnd.pan r18p, p17.2)) fun r18 =>
    (slStr v13 (some r15) none).bind fun v19 =>
    (call n_cur_Pen_Text [AV.canon x5, AV.canon v19] p17.2).bind fun p20 => retOr p20.1 (fun r21p => some (AEnd.pan r21p, p20.2)) fun r21 =>
    (bin .add x23 (.int .i64 1)).bind fun v22 =>
    strs_Put.l0 J m0 x5 v13 x21 x22 v22 p20.2) (
    (call n_cur_Pen_Bytes [AV.canon x5] h).bind fun p23 => retOr p23.1 (fun r24p => some (AEnd.pan r24p, p23.2)) fun r24 =>
    some (AEnd.ret (.tuple [r24, (.int .i64 0)]), p23.2)) := (hJ _ _ _ (by kernel_rfl)).trans (by kernel_rfl)
noncomputable def ref05_Check.A : FAnn := { nv := 5, mv := [(5, 0), (10, 0)], ld := [], lst := [], obj := [], q := [], raw := [] }
noncomputable def ref05_Check.an : Ann := .mk none .nil (.mk none .nil (.mk none (.mk none .nil (.mk none (.mk none (.mk (some [(0, 0), (3, 0)]) .nil .nil) .nil) .nil)) (.mk none (.mk none .nil (.mk none (.mk none (.mk (some [(0, 0), (4, 0)]) .nil .nil) .nil) .nil)) .nil)))
noncomputable abbrev ref05_Check.c : Code := Try.f9.body.getD .skip
noncomputable def ref05_Check.J (call : Cl) (n : Nat) : Jn (AEnd × H) := realJ Try.prog ref05_Check.A call Try.f9 ref05_Check.an ref05_Check.c n
abbrev ref05_Check.F (call : Cl) (n : Nat) (J : Jn (AEnd × H)) : Prop := JFix Try.prog ref05_Check.A call Try.f9 ref05_Check.an ref05_Check.c n J
def ref05_Check.f (J : Jn (AEnd × H)) (x0 : AV) (h : H) : Option (AEnd × H) := J [] [] ⟨[(0, x0)], [], [], h⟩
def ref05_Check.l0 (J : Jn (AEnd × H)) (m0 : Nat) (x0 x3 : AV) (h : H) : Option (AEnd × H) := J [1, 1, 0, 1, 0] [m0] ⟨[(0, x0), (3, x3)], [(0, 0), (3, 0)], [], h⟩
def ref05_Check.l1 (J : Jn (AEnd × H)) (m0 : Nat) (x0 x4 : AV) (h : H) : Option (AEnd × H) := J [1, 1, 1, 0, 1, 0] [m0] ⟨[(0, x0), (4, x4)], [(0, 0), (4, 0)], [], h⟩
theorem ref05_Check.f_eq {call : Cl} {n : Nat} {J : Jn (AEnd × H)} (hJ : ref05_Check.F call n J) (x0 : AV) (h : H) : ref05_Check.f J x0 h =
  (lnSl x0).bind fun v1 =>
  (bin .gtr v1 (.int .i64 4096)).bind fun v2 =>
  condV v2 (
    some (AEnd.ret (.int .i64 3), h)) (
    ref05_Check.l0 J n x0 (.int .i64 0) h) := (hJ _ _ _ (by kernel_rfl)).trans (by kernel_rfl)
theorem ref05_Check.l0_eq {call : Cl} {n : Nat} {J : Jn (AEnd × H)} (hJ : ref05_Check.F call n J) (m0 : Nat) (x0 x3 : AV) (h : H) : ref05_Check.l0 J (m0 + 1) x0 x3 h =
  (lnSl x0).bind fun v3 =>
  (bin .lss x3 v3).bind fun v4 =>
  condV v4 (
    (ixSlice 1 x0 x3).bind fun v5 =>
    (ldCell h v5).bind fun v6 =>
    (lnStr v6).bind fun v7 =>
    (bin .gtr v7 (.int .i64 256)).bind fun v8 =>
    condV v8 (
      some (AEnd.ret (.int .i64 3), h)) (
      (bin .add x3 (.int .i64 1)).bind fun v9 =>
      ref05_Check.l0 J m0 x0 v9 h)) (
    ref05_Check.l1 J n x0 (.int .i64 1) h) := (hJ _ _ _ (by kernel_rfl)).trans (by kernel_rfl)
theorem ref05_Check.l1_eq {call : Cl} {n : Nat} {J : Jn (AEnd × H)} (hJ : ref05_Check.F call n J) (m0 : Nat) (x0 x4 : AV) (h : H) : ref05_Check.l1 J (m0 + 1) x0 x4 h =
  (lnSl x0).bind fun v10 =>
  (bin .lss x4 v10).bind fun v11 =>
  condV v11 (
    (ixSlice 1 x0 x4).bind fun v12 =>
    (ldCell h v12).bind fun v13 =>
    (bin .sub x4 (.int .i64 1)).bind fun v14 =>
    (ixSlice 1 x0 v14).bind fun v15 =>
    (ldCell h v15).bind fun v16 =>
    (bin .leq v13 v16).bind fun v17 =>
    condV v17 (
      some (AEnd.ret (.int .i64 50), h)) (
      (bin .add x4 (.int .i64 1)).bind fun v18 =>
      ref05_Check.l1 J m0 x0 v18 h)) (
    some (AEnd.ret (.int .i64 0), h)) := (hJ _ _ _ (by kernel_rfl)).trans (by kernel_rfl)
noncomputable def strs_Check.A : FAnn := { nv := 5, mv := [(2, 5), (6, 0)], ld := [], lst := [], obj := [], q := [], raw := [] }
noncomputable def strs_Check.an : Ann := .mk none .nil (.mk none .nil (.mk none (.mk none .nil (.mk (some [(0, 0), (12, 0)]) .nil .nil)) (.mk (some [(0, 0)]) (.mk none .nil (.mk none (.mk none (.mk (some [(0, 0), (4, 0)]) .nil .nil) .nil) .nil)) .nil)))
noncomputable abbrev strs_Check.c : Code := Try.f10.body.getD .skip
noncomputable def strs_Check.J (call : Cl) (n : Nat) : Jn (AEnd × H) := realJ Try.prog strs_Check.A call Try.f10 strs_Check.an strs_Check.c n
abbrev strs_Check.F (call : Cl) (n : Nat) (J : Jn (AEnd × H)) : Prop := JFix Try.prog strs_Check.A call Try.f10 strs_Check.an strs_Check.c n J
def strs_Check.f (J : Jn (AEnd × H)) (x0 : AV) (h : H) : Option (AEnd × H) := J [] [] ⟨[(0, x0)], [], [], h⟩
def strs_Check.j1 (J : Jn (AEnd × H)) (x0 x12 : AV) (h : H) : Option (AEnd × H) := J [1, 1, 0, 1] [] ⟨[(0, x0), (12, x12)], [(0, 0), (12, 0)], [], h⟩
def strs_Check.j0 (J : Jn (AEnd × H)) (x0 : AV) (h : H) : Option (AEnd × H) := J [1, 1, 1] [] ⟨[(0, x0)], [(0, 0)], [], h⟩
def strs_Check.l0 (J : Jn (AEnd × H)) (m0 : Nat) (x0 x4 : AV) (h : H) : Option (AEnd × H) := J [1, 1, 1, 0, 1, 0] [m0] ⟨[(0, x0), (4, x4)], [(0, 0), (4, 0)], [], h⟩
theorem strs_Check.f_eq {call : Cl} {n : Nat} {J : Jn (AEnd × H)} (hJ : strs_Check.F call n J) (x0 : AV) (h : H) : strs_Check.f J x0 h =
  (lnSl x0).bind fun v1 =>
  (bin .gtr v1 (.int .i64 4096)).bind fun v2 =>
  condV v2 (
    strs_Check.j1 J  x0 (.bool true) h) (
    (call n_slices_ContainsFunc_string_string [AV.canon x0, AV.canon (.func (.func n_strs_Check_c1) [] [])] h).bind fun p3 => retOr p3.1 (fun r4p => some (AEnd.pan r4p, p3.2)) fun r4 =>
    strs_Check.j1 J  x0 r4 p3.2) := (hJ _ _ _ (by kernel_rfl)).trans (by kernel_rfl)
theorem strs_Check.j1_eq {call : Cl} {n : Nat} {J : Jn (AEnd × H)} (hJ : strs_Check.F call n J) (x0 x12 : AV) (h : H) : strs_Check.j1 J  x0 x12 h =
  condV x12 (
    some (AEnd.ret (.int .i64 3), h)) (
    strs_Check.j0 J  x0 h) := (hJ _ _ _ (by kernel_rfl)).trans (by kernel_rfl)
theorem strs_Check.j0_eq {call : Cl} {n : Nat} {J : Jn (AEnd × H)} (hJ : strs_Check.F call n J) (x0 : AV) (h : H) : strs_Check.j0 J  x0 h =
  strs_Check.l0 J n x0 (.int .i64 1) h := (hJ _ _ _ (by kernel_rfl)).trans (by kernel_rfl)
theorem strs_Check.l0_eq {call : Cl} {n : Nat} {J : Jn (AEnd × H)} (hJ : strs_Check.F call n J) (m0 : Nat) (x0 x4 : AV) (h : H) : strs_Check.l0 J (m0 + 1) x0 x4 h =
  (lnSl x0).bind fun v5 =>
  (bin .lss x4 v5).bind fun v6 =>
  condV v6 (
    (ixSlice 1 x0 x4).bind fun v7 =>
    (ldCell h v7).bind fun v8 =>
    (bin .sub x4 (.int .i64 1)).bind fun v9 =>
    (ixSlice 1 x0 v9).bind fun v10 =>
    (ldCell h v10).bind fun v11 =>
    (bin .leq v8 v11).bind fun v12 =>
    condV v12 (
      some (AEnd.ret (.int .i64 50), h)) (
      (bin .add x4 (.int .i64 1)).bind fun v13 =>
      strs_Check.l0 J m0 x0 v13 h)) (
    some (AEnd.ret (.int .i64 0), h)) := (hJ _ _ _ (by kernel_rfl)).trans (by kernel_rfl)
noncomputable def strs_Get.A : FAnn := { nv := 11, mv := [(5, 0), (8, 0), (8, 4), (9, 0), (9, 1), (13, 0), (13, 5), (14, 0), (14, 1)], ld := [], lst := [], obj := [], q := [], raw := [] }
noncomputable def strs_Get.an : Ann := .mk none .nil (.mk none .nil (.mk none .nil (.mk none (.mk none .nil (.mk none (.mk none (.mk (some [(0, 0), (5, 0), (6, 255), (7, 0)]) .nil .nil) .nil) .nil)) .nil)))
noncomputable abbrev strs_Get.c : Code := Try.f11.body.getD .skip
noncomputable def strs_Get.J (call : Cl) (n : Nat) : Jn (AEnd × H) := realJ Try.prog strs_Get.A call Try.f11 strs_Get.an strs_Get.c n
abbrev strs_Get.F (call : Cl) (n : Nat) (J : Jn (AEnd × H)) : Prop := JFix Try.prog strs_Get.A call Try.f11 strs_Get.an strs_Get.c n J
def strs_Get.f (J : Jn (AEnd × H)) (x0 : AV) (h : H) : Option (AEnd × H) := J [] [] ⟨[(0, x0)], [], [], h⟩
def strs_Get.l0 (J : Jn (AEnd × H)) (m0 : Nat) (x0 x5 x6 x7 : AV) (h : H) : Option (AEnd × H) := J [1, 1, 1, 0, 1, 0] [m0] ⟨[(0, x0), (5, x5), (6, x6), (7, x7)], [(0, 0), (5, 0), (6, 255), (7, 0)], [], h⟩
theorem strs_Get.f_eq {call : Cl} {n : Nat} {J : Jn (AEnd × H)} (hJ : strs_Get.F call n J) (x0 : AV) (h : H) : strs_Get.f J x0 h =
  (call n_cur_From [AV.canon x0] h).bind fun p1 => retOr p1.1 (fun r2p => some (AEnd.pan r2p, p1.2)) fun r2 =>
  (mkAgg [.nilPtr, .str [], .bool false, .int .i64 0] [(0, 1, AV.copy r2), (2, 1, AV.copy (.bool true))]).bind fun v3 =>
  (bx p1.2 v3).bind fun p4 =>
  (nilOk p4.1).bind fun v5 =>
  (fAddr 0 v5).bind fun v6 =>
  (ldCell p4.2 v6).bind fun v7 =>
  (call n_strs_taker_count [AV.canon p4.1, AV.canon (.func (.func n_cur_Reader_Count) [AV.copy v7] []), AV.canon (.int .i64 4096)] p4.2).bind fun p8 => retOr p8.1 (fun r9p => some (AEnd.pan r9p, p8.2)) fun r9 =>
  strs_Get.l0 J n x0 p4.1 (.list [] .cap) r9 p8.2 := (hJ _ _ _ (by kernel_rfl)).trans (by kernel_rfl)
theorem strs_Get.l0_eq {call : Cl} {n : Nat} {J : Jn (AEnd × H)} (hJ : strs_Get.F call n J) (m0 : Nat) (x0 x5 x6 x7 : AV) (h : H) : strs_Get.l0 J (m0 + 1) x0 x5 x6 x7 h =
  (bin .gtr x7 (.int .i64 0)).bind fun v10 =>
  condV v10 (
    (call n_strs_taker_text [AV.canon x5] h).bind fun p11 => retOr p11.1 (fun r12p => some (AEnd.pan r12p, p11.2)) fun r12 =>
    (exTuple 0 r12).bind fun v13 =>
    (exTuple 1 r12).bind fun v14 =>
    (bin .neq v14 (.int .i64 0)).bind fun v15 =>
    condV v15 (
      (nilOk x5).bind fun v16 =>
      (fAddr 3 v16).bind fun v17 =>
      (ldCell p11.2 v17).bind fun v18 =>
      some (AEnd.ret (.tuple [(.list [] .cap), (AV.copy v18), v14]), p11.2)) (
      (mkRows 1 [.str []] 1 [(0, v13)]).bind fun v19 =>
      (apSlice 1 16 false true p11.2 x6 v19).bind fun v20 =>
      (bin .sub x7 (.int .i64 1)).bind fun v21 =>
      strs_Get.l0 J m0 x0 x5 v20 v21 p11.2)) (
    (nilOk x5).bind fun v22 =>
    (fAddr 0 v22).bind fun v23 =>
    (ldCell h v23).bind fun v24 =>
    (call n_cur_Reader_End [AV.canon v24] h).bind fun p25 => retOr p25.1 (fun r26p => some (AEnd.pan r26p, p25.2)) fun r26 =>
    (nilOk x5).bind fun v27 =>
    (fAddr 0 v27).bind fun v28 =>
    (ldCell p25.2 v28).bind fun v29 =>
    (call n_cur_Reader_Err [AV.canon v29] p25.2).bind fun p30 => retOr p30.1 (fun r31p => some (AEnd.pan r31p, p30.2)) fun r31 =>
    (bin .neq r31 (.int .i64 0)).bind fun v32 =>
    condV v32 (
      (nilOk x5).bind fun v33 =>
      (fAddr 0 v33).bind fun v34 =>
      (ldCell p30.2 v34).bind fun v35 =>
      (call n_cur_Reader_At [AV.canon v35] p30.2).bind fun p36 => retOr p36.1 (fun r37p => some (AEnd.pan r37p, p36.2)) fun r37 =>
      some (AEnd.ret (.tuple [(.list [] .cap), r37, r31]), p36.2)) (
      (lnSl x0).bind fun v38 =>
      some (AEnd.ret (.tuple [x6, (AV.copy v38), (.int .i64 0)]), p30.2))) := (hJ _ _ _ (by kernel_rfl)).trans (by kernel_rfl)
noncomputable def ref05_Put.A : FAnn := { nv := 7, mv := [(5, 0), (6, 0), (7, 0), (7, 8), (9, 0)], ld := [], lst := [], obj := [], q := [33, 35], raw := [] }
noncomputable def ref05_Put.an : Ann := .mk none .nil (.mk none .nil (.mk none .nil (.mk none (.mk none .nil (.mk none (.mk none (.mk (some [(0, 0), (3, 255), (4, 0), (5, 0)]) .nil .nil) .nil) .nil)) .nil)))
noncomputable abbrev ref05_Put.c : Code := Try.f12.body.getD .skip
noncomputable def ref05_Put.J (call : Cl) (n : Nat) : Jn (AEnd × H) := realJ Try.prog ref05_Put.A call Try.f12 ref05_Put.an ref05_Put.c n
abbrev ref05_Put.F (call : Cl) (n : Nat) (J : Jn (AEnd × H)) : Prop := JFix Try.prog ref05_Put.A call Try.f12 ref05_Put.an ref05_Put.c n J
def ref05_Put.f (J : Jn (AEnd × H)) (x0 : AV) (h : H) : Option (AEnd × H) := J [] [] ⟨[(0, x0)], [], [], h⟩
def ref05_Put.l0 (J : Jn (AEnd × H)) (m0 : Nat) (x0 x3 x4 x5 : AV) (h : H) : Option (AEnd × H) := J [1, 1, 1, 0, 1, 0] [m0] ⟨[(0, x0), (3, x3), (4, x4), (5, x5)], [(0, 0), (3, 255), (4, 0), (5, 0)], [], h⟩
theorem ref05_Put.f_eq {call : Cl} {n : Nat} {J : Jn (AEnd × H)} (hJ : ref05_Put.F call n J) (x0 : AV) (h : H) : ref05_Put.f J x0 h =
  (lnSl x0).bind fun v1 =>
  (call n_warrantorref02_Num [AV.canon v1] h).bind fun p2 => retOr p2.1 (fun r3p => some (AEnd.pan r3p, p2.2)) fun r3 =>
  ref05_Put.l0 J n x0 r3 (.str []) (.int .i64 0) p2.2 := (hJ _ _ _ (by kernel_rfl)).trans (by kernel_rfl)
theorem ref05_Put.l0_eq {call : Cl} {n : Nat} {J : Jn (AEnd × H)} (hJ : ref05_Put.F call n J) (m0 : Nat) (x0 x3 x4 x5 : AV) (h : H) : ref05_Put.l0 J (m0 + 1) x0 x3 x4 x5 h =
  (lnSl x0).bind fun v4 =>
  (bin .lss x5 v4).bind fun v5 =>
  condV v5 (
    (ixSlice 1 x0 x5).bind fun v6 =>
    (ldCell h v6).bind fun v7 =>
    (call n_warrantorref05_shares [AV.canon x4, AV.canon v7] h).bind fun p8 => retOr p8.1 (fun r9p => some (AEnd.pan r9p, p8.2)) fun r9 =>
    (call n_warrantorref02_Num [AV.canon r9] p8.2).bind fun p10 => retOr p10.1 (fun _ => none) fun r11 =>
    (apSlice 1 1 true true p10.2 x3 r11).bind fun v12 =>
    (ixSlice 1 x0 x5).bind fun v13 =>
    (ldCell p10.2 v13).bind fun v14 =>
    (slStr v14 (some r9) none).bind fun v15 =>
    (call n_warrantorref02_Text [AV.canon v15] p10.2).bind fun p16 => retOr p16.1 (fun _ => none) fun r17 =>
    (apSlice 1 1 true true p16.2 v12 r17).bind fun v18 =>
    (ixSlice 1 x0 x5).bind fun v19 =>
    (ldCell p16.2 v19).bind fun v20 =>
    (bin .add x5 (.int .i64 1)).bind fun v21 =>
    ref05_Put.l0 J m0 x0 v18 v20 v21 p16.2) (
    some (AEnd.ret x3, h)) := (hJ _ _ _ (by kernel_rfl)).trans (by kernel_rfl)
noncomputable def ref05_Same.A : FAnn := { nv := 6, mv := [(5, 0)], ld := [], lst := [], obj := [], q := [], raw := [] }
noncomputable def ref05_Same.an : Ann := .mk none .nil (.mk none .nil (.mk none (.mk none .nil (.mk none (.mk none (.mk (some [(0, 0), (1, 0), (5, 0)]) .nil .nil) .nil) .nil)) .nil))
noncomputable abbrev ref05_Same.c : Code := Try.f13.body.getD .skip
noncomputable def ref05_Same.J (call : Cl) (n : Nat) : Jn (AEnd × H) := realJ Try.prog ref05_Same.A call Try.f13 ref05_Same.an ref05_Same.c n
abbrev ref05_Same.F (call : Cl) (n : Nat) (J : Jn (AEnd × H)) : Prop := JFix Try.prog ref05_Same.A call Try.f13 ref05_Same.an ref05_Same.c n J
def ref05_Same.f (J : Jn (AEnd × H)) (x0 x1 : AV) (h : H) : Option (AEnd × H) := J [] [] ⟨[(0, x0), (1, x1)], [], [], h⟩
def ref05_Same.l0 (J : Jn (AEnd × H)) (m0 : Nat) (x0 x1 x5 : AV) (h : H) : Option (AEnd × H) := J [1, 1, 0, 1, 0] [m0] ⟨[(0, x0), (1, x1), (5, x5)], [(0, 0), (1, 0), (5, 0)], [], h⟩
theorem ref05_Same.f_eq {call : Cl} {n : Nat} {J : Jn (AEnd × H)} (hJ : ref05_Same.F call n J) (x0 x1 : AV) (h : H) : ref05_Same.f J x0 x1 h =
  (lnSl x0).bind fun v1 =>
  (lnSl x1).bind fun v2 =>
  (bin .neq v1 v2).bind fun v3 =>
  condV v3 (
    some (AEnd.ret (.bool false), h)) (
    ref05_Same.l0 J n x0 x1 (.int .i64 0) h) := (hJ _ _ _ (by kernel_rfl)).trans (by kernel_rfl)
theorem ref05_Same.l0_eq {call : Cl} {n : Nat} {J : Jn (AEnd × H)} (hJ : ref05_Same.F call n J) (m0 : Nat) (x0 x1 x5 : AV) (h : H) : ref05_Same.l0 J (m0 + 1) x0 x1 x5 h =
  (lnSl x0).bind fun v4 =>
  (bin .lss x5 v4).bind fun v5 =>
  condV v5 (
    (ixSlice 1 x0 x5).bind fun v6 =>
    (ldCell h v6).bind fun v7 =>
    (ixSlice 1 x1 x5).bind fun v8 =>
    (ldCell h v8).bind fun v9 =>
    (bin .neq v7 v9).bind fun v10 =>
    condV v10 (
      some (AEnd.ret (.bool false), h)) (
      (bin .add x5 (.int .i64 1)).bind fun v11 =>
      ref05_Same.l0 J m0 x0 x1 v11 h)) (
    some (AEnd.ret (.bool true), h)) := (hJ _ _ _ (by kernel_rfl)).trans (by kernel_rfl)
noncomputable def strs_Find.A : FAnn := { nv := 8, mv := [(3, 0), (3, 1), (4, 0), (6, 0)], ld := [], lst := [], obj := [], q := [], raw := [] }
noncomputable def strs_Find.an : Ann := .nil
noncomputable abbrev strs_Find.c : Code := Try.f15.body.getD .skip
noncomputable def strs_Find.J (call : Cl) (n : Nat) : Jn (AEnd × H) := realJ Try.prog strs_Find.A call Try.f15 strs_Find.an strs_Find.c n
abbrev strs_Find.F (call : Cl) (n : Nat) (J : Jn (AEnd × H)) : Prop := JFix Try.prog strs_Find.A call Try.f15 strs_Find.an strs_Find.c n J
def strs_Find.f (J : Jn (AEnd × H)) (x0 x1 : AV) (h : H) : Option (AEnd × H) := J [] [] ⟨[(0, x0), (1, x1)], [], [], h⟩
theorem strs_Find.f_eq {call : Cl} {n : Nat} {J : Jn (AEnd × H)} (hJ : strs_Find.F call n J) (x0 x1 : AV) (h : H) : strs_Find.f J x0 x1 h =
  (call n_strs_Check [AV.canon x0] h).bind fun p1 => retOr p1.1 (fun r2p => some (AEnd.pan r2p, p1.2)) fun r2 =>
  (bin .neq r2 (.int .i64 0)).bind fun v3 =>
  condV v3 (
    some (AEnd.ret (.tuple [(.int .i64 0), (.bool false)]), p1.2)) (
    (call n_slices_BinarySearch_string_string [AV.canon x0, AV.canon x1] p1.2).bind fun p4 => retOr p4.1 (fun r5p => some (AEnd.pan r5p, p4.2)) fun r5 =>
    (exTuple 0 r5).bind fun v6 =>
    (exTuple 1 r5).bind fun v7 =>
    (unOp .not v7).bind fun v8 =>
    condV v8 (
      some (AEnd.ret (.tuple [(.int .i64 0), (.bool false)]), p4.2)) (
      some (AEnd.ret (.tuple [v6, (.bool true)]), p4.2))) := (hJ _ _ _ (by kernel_rfl)).trans (by kernel_rfl)
noncomputable def ref05_Find.A : FAnn := { nv := 7, mv := [(5, 0), (7, 0)], ld := [], lst := [], obj := [], q := [], raw := [] }
noncomputable def ref05_Find.an : Ann := .mk none .nil (.mk none .nil (.mk none (.mk none .nil (.mk none (.mk none (.mk (some [(0, 0), (1, 0), (6, 0)]) .nil .nil) .nil) .nil)) .nil))
noncomputable abbrev ref05_Find.c : Code := Try.f16.body.getD .skip
noncomputable def ref05_Find.J (call : Cl) (n : Nat) : Jn (AEnd × H) := realJ Try.prog ref05_Find.A call Try.f16 ref05_Find.an ref05_Find.c n
abbrev ref05_Find.F (call : Cl) (n : Nat) (J : Jn (AEnd × H)) : Prop := JFix Try.prog ref05_Find.A call Try.f16 ref05_Find.an ref05_Find.c n J
def ref05_Find.f (J : Jn (AEnd × H)) (x0 x1 : AV) (h : H) : Option (AEnd × H) := J [] [] ⟨[(0, x0), (1, x1)], [], [], h⟩
def ref05_Find.l0 (J : Jn (AEnd × H)) (m0 : Nat) (x0 x1 x6 : AV) (h : H) : Option (AEnd × H) := J [1, 1, 0, 1, 0] [m0] ⟨[(0, x0), (1, x1), (6, x6)], [(0, 0), (1, 0), (6, 0)], [], h⟩
theorem ref05_Find.f_eq {call : Cl} {n : Nat} {J : Jn (AEnd × H)} (hJ : ref05_Find.F call n J) (x0 x1 : AV) (h : H) : ref05_Find.f J x0 x1 h =
  (call n_warrantorref05_Check [AV.canon x0] h).bind fun p1 => retOr p1.1 (fun r2p => some (AEnd.pan r2p, p1.2)) fun r2 =>
  (bin .neq r2 (.int .i64 0)).bind fun v3 =>
  condV v3 (
    some (AEnd.ret (.tuple [(.int .i64 0), (.bool false)]), p1.2)) (
    ref05_Find.l0 J n x0 x1 (.int .i64 0) p1.2) := (hJ _ _ _ (by kernel_rfl)).trans (by kernel_rfl)
theorem ref05_Find.l0_eq {call : Cl} {n : Nat} {J : Jn (AEnd × H)} (hJ : ref05_Find.F call n J) (m0 : Nat) (x0 x1 x6 : AV) (h : H) : ref05_Find.l0 J (m0 + 1) x0 x1 x6 h =
  (lnSl x0).bind fun v4 =>
  (bin .lss x6 v4).bind fun v5 =>
  condV v5 (
    (ixSlice 1 x0 x6).bind fun v6 =>
    (ldCell h v6).bind fun v7 =>
    (bin .eql v7 x1).bind fun v8 =>
    condV v8 (
      some (AEnd.ret (.tuple [(AV.copy x6), (.bool true)]), h)) (
      (bin .add x6 (.int .i64 1)).bind fun v9 =>
      ref05_Find.l0 J m0 x0 x1 v9 h)) (
    some (AEnd.ret (.tuple [(.int .i64 0), (.bool false)]), h)) := (hJ _ _ _ (by kernel_rfl)).trans (by kernel_rfl)
noncomputable def ref05_Of.A : FAnn := { nv := 7, mv := [(4, 0), (7, 0), (10, 0), (10, 2), (10, 10), (11, 0)], ld := [], lst := [], obj := [], q := [], raw := [] }
noncomputable def ref05_Of.an : Ann := .mk none .nil (.mk none .nil (.mk none (.mk none .nil (.mk none (.mk none (.mk (some [(0, 0), (3, 255), (4, 0)]) .nil (.mk none (.mk none (.mk none .nil (.mk none (.mk none (.mk none (.mk (some [(0, 0), (3, 255), (4, 0), (5, 0)]) .nil .nil) .nil) .nil) (.mk none .nil (.mk (some [(0, 0), (3, 255), (4, 0), (5, 0)]) .nil .nil)))) .nil) .nil)) .nil) .nil)) .nil))
noncomputable abbrev ref05_Of.c : Code := Try.f17.body.getD .skip
noncomputable def ref05_Of.J (call : Cl) (n : Nat) : Jn (AEnd × H) := realJ Try.prog ref05_Of.A call Try.f17 ref05_Of.an ref05_Of.c n
abbrev ref05_Of.F (call : Cl) (n : Nat) (J : Jn (AEnd × H)) : Prop := JFix Try.prog ref05_Of.A call Try.f17 ref05_Of.an ref05_Of.c n J
def ref05_Of.f (J : Jn (AEnd × H)) (x0 : AV) (h : H) : Option (AEnd × H) := J [] [] ⟨[(0, x0)], [], [], h⟩
def ref05_Of.l0 (J : Jn (AEnd × H)) (m0 : Nat) (x0 x3 x4 : AV) (h : H) : Option (AEnd × H) := J [1, 1, 0, 1, 0] [m0] ⟨[(0, x0), (3, x3), (4, x4)], [(0, 0), (3, 255), (4, 0)], [], h⟩
def ref05_Of.l1 (J : Jn (AEnd × H)) (m0 m1 : Nat) (x0 x3 x4 x5 : AV) (h : H) : Option (AEnd × H) := J [1, 1, 0, 1, 0, 0, 1, 0, 0, 1, 0, 0] [m0, m1] ⟨[(0, x0), (3, x3), (4, x4), (5, x5)], [(0, 0), (3, 255), (4, 0), (5, 0)], [], h⟩
def ref05_Of.j0 (J : Jn (AEnd × H)) (m0 : Nat) (x0 x3 x4 x5 : AV) (h : H) : Option (AEnd × H) := J [1, 1, 0, 1, 0, 0, 1, 0, 0, 1, 1, 1] [m0] ⟨[(0, x0), (3, x3), (4, x4), (5, x5)], [(0, 0), (3, 255), (4, 0), (5, 0)], [], h⟩
theorem ref05_Of.f_eq {call : Cl} {n : Nat} {J : Jn (AEnd × H)} (hJ : ref05_Of.F call n J) (x0 : AV) (h : H) : ref05_Of.f J x0 h =
  ref05_Of.l0 J n x0 (.list [] .cap) (.int .i64 0) h := (hJ _ _ _ (by kernel_rfl)).trans (by kernel_rfl)
theorem ref05_Of.l0_eq {call : Cl} {n : Nat} {J : Jn (AEnd × H)} (hJ : ref05_Of.F call n J) (m0 : Nat) (x0 x3 x4 : AV) (h : H) : ref05_Of.l0 J (m0 + 1) x0 x3 x4 h =
  (lnSl x0).bind fun v1 =>
  (bin .lss x4 v1).bind fun v2 =>
  condV v2 (
    ref05_Of.l1 J m0 n x0 x3 x4 (.int .i64 0) h) (
    some (AEnd.ret x3, h)) := (hJ _ _ _ (by kernel_rfl)).trans (by kernel_rfl)
theorem ref05_Of.l1_eq {call : Cl} {n : Nat} {J : Jn (AEnd × H)} (hJ : ref05_Of.F call n J) (m0 m1 : Nat) (x0 x3 x4 x5 : AV) (h : H) : ref05_Of.l1 J m0 (m1 + 1) x0 x3 x4 x5 h =
  (lnSl x3).bind fun v3 =>
  (bin .lss x5 v3).bind fun v4 =>
  condV v4 (
    (ixSlice 1 x3 x5).bind fun v5 =>
    (ldCell h v5).bind fun v6 =>
    (ixSlice 1 x0 x4).bind fun v7 =>
    (ldCell h v7).bind fun v8 =>
    (bin .lss v6 v8).bind fun v9 =>
    condV v9 (
      (bin .add x5 (.int .i64 1)).bind fun v10 =>
      ref05_Of.l1 J m0 m1 x0 x3 x4 v10 h) (
      (lnSl x3).bind fun v11 =>
      (bin .lss x5 v11).bind fun v12 =>
      condV v12 (
        (ixSlice 1 x3 x5).bind fun v13 =>
        (ldCell h v13).bind fun v14 =>
        (ixSlice 1 x0 x4).bind fun v15 =>
        (ldCell h v15).bind fun v16 =>
        (bin .eql v14 v16).bind fun v17 =>
        condV v17 (
          (bin .add x4 (.int .i64 1)).bind fun v18 =>
          ref05_Of.l0 J m0 x0 x3 v18 h) (
          ref05_Of.j0 J m0 x0 x3 x4 x5 h)) (
        ref05_Of.j0 J m0 x0 x3 x4 x5 h))) (
    (lnSl x3).bind fun v19 =>
    (bin .lss x5 v19).bind fun v20 =>
    condV v20 (
      (ixSlice 1 x3 x5).bind fun v21 =>
      (ldCell h v21).bind fun v22 =>
      (ixSlice 1 x0 x4).bind fun v23 =>
      (ldCell h v23).bind fun v24 =>
      (bin .eql v22 v24).bind fun v25 =>
      condV v25 (
        (bin .add x4 (.int .i64 1)).bind fun v26 =>
        ref05_Of.l0 J m0 x0 x3 v26 h) (
        ref05_Of.j0 J m0 x0 x3 x4 x5 h)) (
      ref05_Of.j0 J m0 x0 x3 x4 x5 h)) := (hJ _ _ _ (by kernel_rfl)).trans (by kernel_rfl)
theorem ref05_Of.j0_eq {call : Cl} {n : Nat} {J : Jn (AEnd × H)} (hJ : ref05_Of.F call n J) (m0 : Nat) (x0 x3 x4 x5 : AV) (h : H) : ref05_Of.j0 J m0 x0 x3 x4 x5 h =
  (mkRows 1 [.str []] 0 []).bind fun v27 =>
  (slSlice 1 x3 (some x5) none none).bind fun v28 =>
  (apSlice 1 16 false false h v27 v28).bind fun v29 =>
  (slSlice 1 x3 none (some x5) (some x5)).bind fun v30 =>
  (ixSlice 1 x0 x4).bind fun v31 =>
  (ldCell h v31).bind fun v32 =>
  (mkRows 1 [.str []] 1 [(0, v32)]).bind fun v33 =>
  (apSlice 1 16 false false h v30 v33).bind fun v34 =>
  (apSlice 1 16 false true h v34 v29).bind fun v35 =>
  (bin .add x4 (.int .i64 1)).bind fun v36 =>
  ref05_Of.l0 J m0 x0 v35 v36 h := (hJ _ _ _ (by kernel_rfl)).trans (by kernel_rfl)
noncomputable def strs_Same.A : FAnn := { nv := 4, mv := [(1, 0), (1, 1)], ld := [], lst := [], obj := [], q := [], raw := [] }
noncomputable def strs_Same.an : Ann := .nil
noncomputable abbrev strs_Same.c : Code := Try.f18.body.getD .skip
noncomputable def strs_Same.J (call : Cl) (n : Nat) : Jn (AEnd × H) := realJ Try.prog strs_Same.A call Try.f18 strs_Same.an strs_Same.c n
abbrev strs_Same.F (call : Cl) (n : Nat) (J : Jn (AEnd × H)) : Prop := JFix Try.prog strs_Same.A call Try.f18 strs_Same.an strs_Same.c n J
def strs_Same.f (J : Jn (AEnd × H)) (x0 x1 : AV) (h : H) : Option (AEnd × H) := J [] [] ⟨[(0, x0), (1, x1)], [], [], h⟩
theorem strs_Same.f_eq {call : Cl} {n : Nat} {J : Jn (AEnd × H)} (hJ : strs_Same.F call n J) (x0 x1 : AV) (h : H) : strs_Same.f J x0 x1 h =
  (call n_slices_Equal_string_string [AV.canon x0, AV.canon x1] h).bind fun p1 => retOr p1.1 (fun r2p => some (AEnd.pan r2p, p1.2)) fun r2 =>
  some (AEnd.ret r2, p1.2) := (hJ _ _ _ (by kernel_rfl)).trans (by kernel_rfl)
noncomputable def cur_New.A : FAnn := { nv := 1, mv := [], ld := [], lst := [], obj := [], q := [], raw := [] }
noncomputable def cur_New.an : Ann := .nil
noncomputable abbrev cur_New.c : Code := Try.f19.body.getD .skip
noncomputable def cur_New.J (call : Cl) (n : Nat) : Jn (AEnd × H) := realJ Try.prog cur_New.A call Try.f19 cur_New.an cur_New.c n
abbrev cur_New.F (call : Cl) (n : Nat) (J : Jn (AEnd × H)) : Prop := JFix Try.prog cur_New.A call Try.f19 cur_New.an cur_New.c n J
def cur_New.f (J : Jn (AEnd × H)) (h : H) : Option (AEnd × H) := J [] [] ⟨[], [], [], h⟩
theorem cur_New.f_eq {call : Cl} {n : Nat} {J : Jn (AEnd × H)} (hJ : cur_New.F call n J) (h : H) : cur_New.f J  h =
  (mkAgg [.list [] .cap] []).bind fun v1 =>
  (bx h v1).bind fun p2 =>
  some (AEnd.ret (AV.copy p2.1), p2.2) := (hJ _ _ _ (by kernel_rfl)).trans (by kernel_rfl)
noncomputable def cur_Pen_U.A : FAnn := { nv := 4, mv := [(0, 0), (0, 1)], ld := [], lst := [], obj := [], q := [], raw := [] }
noncomputable def cur_Pen_U.an : Ann := .nil
noncomputable abbrev cur_Pen_U.c : Code := Try.f20.body.getD .skip
noncomputable def cur_Pen_U.J (call : Cl) (n : Nat) : Jn (AEnd × H) := realJ Try.prog cur_Pen_U.A call Try.f20 cur_Pen_U.an cur_Pen_U.c n
abbrev cur_Pen_U.F (call : Cl) (n : Nat) (J : Jn (AEnd × H)) : Prop := JFix Try.prog cur_Pen_U.A call Try.f20 cur_Pen_U.an cur_Pen_U.c n J
def cur_Pen_U.f (J : Jn (AEnd × H)) (x0 x1 : AV) (h : H) : Option (AEnd × H) := J [] [] ⟨[(0, x0), (1, x1)], [], [], h⟩
theorem cur_Pen_U.f_eq {call : Cl} {n : Nat} {J : Jn (AEnd × H)} (hJ : cur_Pen_U.F call n J) (x0 x1 : AV) (h : H) : cur_Pen_U.f J x0 x1 h =
  (call n_leb_Put [AV.canon x1] h).bind fun p1 => retOr p1.1 (fun r2p => some (AEnd.pan r2p, p1.2)) fun r2 =>
  (call n_cur_Pen_put [AV.canon x0, AV.canon r2] p1.2).bind fun p3 => retOr p3.1 (fun r4p => some (AEnd.pan r4p, p3.2)) fun r4 =>
  some (AEnd.ret (.tuple []), p3.2) := (hJ _ _ _ (by kernel_rfl)).trans (by kernel_rfl)
noncomputable def strs_shares.A : FAnn := { nv := 7, mv := [(6, 0), (8, 0)], ld := [], lst := [], obj := [], q := [], raw := [] }
noncomputable def strs_shares.an : Ann := .mk none .nil (.mk none .nil (.mk none (.mk none .nil (.mk none (.mk none (.mk (some [(0, 0), (1, 0), (5, 0), (12, 0), (13, 0)]) .nil .nil) .nil) .nil)) .nil))
noncomputable abbrev strs_shares.c : Code := Try.f21.body.getD .skip
noncomputable def strs_shares.J (call : Cl) (n : Nat) : Jn (AEnd × H) := realJ Try.prog strs_shares.A call Try.f21 strs_shares.an strs_shares.c n
abbrev strs_shares.F (call : Cl) (n : Nat) (J : Jn (AEnd × H)) : Prop := JFix Try.prog strs_shares.A call Try.f21 strs_shares.an strs_shares.c n J
def strs_shares.f (J : Jn (AEnd × H)) (x0 x1 : AV) (h : H) : Option (AEnd × H) := J [] [] ⟨[(0, x0), (1, x1)], [], [], h⟩
def strs_shares.l0 (J : Jn (AEnd × H)) (m0 : Nat) (x0 x1 x5 x12 x13 : AV) (h : H) : Option (AEnd × H) := J [1, 1, 0, 1, 0] [m0] ⟨[(0, x0), (1, x1), (5, x5), (12, x12), (13, x13)], [(0, 0), (1, 0), (5, 0), (12, 0), (13, 0)], [], h⟩
theorem strs_shares.f_eq {call : Cl} {n : Nat} {J : Jn (AEnd × H)} (hJ : strs_shares.F call n J) (x0 x1 : AV) (h : H) : strs_shares.f J x0 x1 h =
  (lnStr x0).bind fun v1 =>
  (lnStr x1).bind fun v2 =>
  (maxMinAll false [v1, v2]).bind fun v3 =>
  strs_shares.l0 J n x0 x1 v3 v3 (.int .i64 0) h := (hJ _ _ _ (by kernel_rfl)).trans (by kernel_rfl)
theorem strs_shares.l0_eq {call : Cl} {n : Nat} {J : Jn (AEnd × H)} (hJ : strs_shares.F call n J) (m0 : Nat) (x0 x1 x5 x12 x13 : AV) (h : H) : strs_shares.l0 J (m0 + 1) x0 x1 x5 x12 x13 h =
  (bin .lss x13 x12).bind fun v4 =>
  condV v4 (
    (ixStr x0 x13).bind fun v5 =>
    (ixStr x1 x13).bind fun v6 =>
    (bin .neq v5 v6).bind fun v7 =>
    condV v7 (
      some (AEnd.ret (AV.copy x13), h)) (
      (bin .add x13 (.int .i64 1)).bind fun v8 =>
      strs_shares.l0 J m0 x0 x1 x5 x12 v8 h)) (
    some (AEnd.ret (AV.copy x5), h)) := (hJ _ _ _ (by kernel_rfl)).trans (by kernel_rfl)
noncomputable def cur_Pen_Text.A : FAnn := { nv := 4, mv := [(1, 0), (1, 1)], ld := [], lst := [], obj := [], q := [], raw := [] }
noncomputable def cur_Pen_Text.an : Ann := .nil
noncomputable abbrev cur_Pen_Text.c : Code := Try.f22.body.getD .skip
noncomputable def cur_Pen_Text.J (call : Cl) (n : Nat) : Jn (AEnd × H) := realJ Try.prog cur_Pen_Text.A call Try.f22 cur_Pen_Text.an cur_Pen_Text.c n
abbrev cur_Pen_Text.F (call : Cl) (n : Nat) (J : Jn (AEnd × H)) : Prop := JFix Try.prog cur_Pen_Text.A call Try.f22 cur_Pen_Text.an cur_Pen_Text.c n J
def cur_Pen_Text.f (J : Jn (AEnd × H)) (x0 x1 : AV) (h : H) : Option (AEnd × H) := J [] [] ⟨[(0, x0), (1, x1)], [], [], h⟩
theorem cur_Pen_Text.f_eq {call : Cl} {n : Nat} {J : Jn (AEnd × H)} (hJ : cur_Pen_Text.F call n J) (x0 x1 : AV) (h : H) : cur_Pen_Text.f J x0 x1 h =
  (lnStr x1).bind fun v1 =>
  (cvInt .u64 v1).bind fun v2 =>
  (call n_cur_Pen_U [AV.canon x0, AV.canon v2] h).bind fun p3 => retOr p3.1 (fun r4p => some (AEnd.pan r4p, p3.2)) fun r4 =>
  (strBytes x1).bind fun v5 =>
  (call n_cur_Pen_put [AV.canon x0, AV.canon v5] p3.2).bind fun p6 => retOr p6.1 (fun r7p => some (AEnd.pan r7p, p6.2)) fun r7 =>
  some (AEnd.ret (.tuple []), p6.2) := (hJ _ _ _ (by kernel_rfl)).trans (by kernel_rfl)
noncomputable def cur_Pen_Bytes.A : FAnn := { nv := 2, mv := [(3, 0)], ld := [], lst := [], obj := [], q := [], raw := [] }
noncomputable def cur_Pen_Bytes.an : Ann := .nil
noncomputable abbrev cur_Pen_Bytes.c : Code := Try.f23.body.getD .skip
noncomputable def cur_Pen_Bytes.J (call : Cl) (n : Nat) : Jn (AEnd × H) := realJ Try.prog cur_Pen_Bytes.A call Try.f23 cur_Pen_Bytes.an cur_Pen_Bytes.c n
abbrev cur_Pen_Bytes.F (call : Cl) (n : Nat) (J : Jn (AEnd × H)) : Prop := JFix Try.prog cur_Pen_Bytes.A call Try.f23 cur_Pen_Bytes.an cur_Pen_Bytes.c n J
def cur_Pen_Bytes.f (J : Jn (AEnd × H)) (x0 : AV) (h : H) : Option (AEnd × H) := J [] [] ⟨[(0, x0)], [], [], h⟩
theorem cur_Pen_Bytes.f_eq {call : Cl} {n : Nat} {J : Jn (AEnd × H)} (hJ : cur_Pen_Bytes.F call n J) (x0 : AV) (h : H) : cur_Pen_Bytes.f J x0 h =
  (eqv false (aeq Try.prog 20 38 x0 .nilPtr)).bind fun v1 =>
  condV v1 (
    some (AEnd.ret (.list [] .cap), h)) (
    (nilOk x0).bind fun v2 =>
    (fAddr 0 v2).bind fun v3 =>
    (ldCell h v3).bind fun v4 =>
    (call n_slices_Clone_byte_byte [AV.canon v4] h).bind fun p5 => retOr p5.1 (fun r6p => some (AEnd.pan r6p, p5.2)) fun r6 =>
    some (AEnd.ret r6, p5.2)) := (hJ _ _ _ (by kernel_rfl)).trans (by kernel_rfl)
noncomputable def strs_Check_c1.A : FAnn := { nv := 2, mv := [(1, 0)], ld := [], lst := [], obj := [], q := [], raw := [] }
noncomputable def strs_Check_c1.an : Ann := .nil
noncomputable abbrev strs_Check_c1.c : Code := Try.f24.body.getD .skip
noncomputable def strs_Check_c1.J (call : Cl) (n : Nat) : Jn (AEnd × H) := realJ Try.prog strs_Check_c1.A call Try.f24 strs_Check_c1.an strs_Check_c1.c n
abbrev strs_Check_c1.F (call : Cl) (n : Nat) (J : Jn (AEnd × H)) : Prop := JFix Try.prog strs_Check_c1.A call Try.f24 strs_Check_c1.an strs_Check_c1.c n J
def strs_Check_c1.f (J : Jn (AEnd × H)) (x0 : AV) (h : H) : Option (AEnd × H) := J [] [] ⟨[(0, x0)], [], [], h⟩
theorem strs_Check_c1.f_eq {call : Cl} {n : Nat} {J : Jn (AEnd × H)} (hJ : strs_Check_c1.F call n J) (x0 : AV) (h : H) : strs_Check_c1.f J x0 h =
  (lnStr x0).bind fun v1 =>
  (bin .gtr v1 (.int .i64 256)).bind fun v2 =>
  some (AEnd.ret (AV.copy v2), h) := (hJ _ _ _ (by kernel_rfl)).trans (by kernel_rfl)
noncomputable def slices_ContainsFunc_string_string.A : FAnn := { nv := 4, mv := [(1, 0), (1, 1)], ld := [], lst := [], obj := [], q := [], raw := [] }
noncomputable def slices_ContainsFunc_string_string.an : Ann := .nil
noncomputable abbrev slices_ContainsFunc_string_string.c : Code := Try.f25.body.getD .skip
noncomputable def slices_ContainsFunc_string_string.J (call : Cl) (n : Nat) : Jn (AEnd × H) := realJ Try.prog slices_ContainsFunc_string_string.A call Try.f25 slices_ContainsFunc_string_string.an slices_ContainsFunc_string_string.c n
abbrev slices_ContainsFunc_string_string.F (call : Cl) (n : Nat) (J : Jn (AEnd × H)) : Prop := JFix Try.prog slices_ContainsFunc_string_string.A call Try.f25 slices_ContainsFunc_string_string.an slices_ContainsFunc_string_string.c n J
def slices_ContainsFunc_string_string.f (J : Jn (AEnd × H)) (x0 x1 : AV) (h : H) : Option (AEnd × H) := J [] [] ⟨[(0, x0), (1, x1)], [], [], h⟩
theorem slices_ContainsFunc_string_string.f_eq {call : Cl} {n : Nat} {J : Jn (AEnd × H)} (hJ : slices_ContainsFunc_string_string.F call n J) (x0 x1 : AV) (h : H) : slices_ContainsFunc_string_string.f J x0 x1 h =
  (call n_slices_IndexFunc_string_string [AV.canon x0, AV.canon x1] h).bind fun p1 => retOr p1.1 (fun r2p => some (AEnd.pan r2p, p1.2)) fun r2 =>
  (bin .geq r2 (.int .i64 0)).bind fun v3 =>
  some (AEnd.ret (AV.copy v3), p1.2) := (hJ _ _ _ (by kernel_rfl)).trans (by kernel_rfl)
noncomputable def cur_From.A : FAnn := { nv := 2, mv := [(1, 0)], ld := [], lst := [], obj := [], q := [], raw := [] }
noncomputable def cur_From.an : Ann := .nil
noncomputable abbrev cur_From.c : Code := Try.f26.body.getD .skip
noncomputable def cur_From.J (call : Cl) (n : Nat) : Jn (AEnd × H) := realJ Try.prog cur_From.A call Try.f26 cur_From.an cur_From.c n
abbrev cur_From.F (call : Cl) (n : Nat) (J : Jn (AEnd × H)) : Prop := JFix Try.prog cur_From.A call Try.f26 cur_From.an cur_From.c n J
def cur_From.f (J : Jn (AEnd × H)) (x0 : AV) (h : H) : Option (AEnd × H) := J [] [] ⟨[(0, x0)], [], [], h⟩
theorem cur_From.f_eq {call : Cl} {n : Nat} {J : Jn (AEnd × H)} (hJ : cur_From.F call n J) (x0 : AV) (h : H) : cur_From.f J x0 h =
  (call n_slices_Clone_byte_byte [AV.canon x0] h).bind fun p1 => retOr p1.1 (fun r2p => some (AEnd.pan r2p, p1.2)) fun r2 =>
  (mkAgg [.list [] .cap, .int .i64 0, .int .i64 0] [(0, 1, AV.copy r2)]).bind fun v3 =>
  (bx p1.2 v3).bind fun p4 =>
  some (AEnd.ret (AV.copy p4.1), p4.2) := (hJ _ _ _ (by kernel_rfl)).trans (by kernel_rfl)
noncomputable def strs_taker_count.A : FAnn := { nv := 6, mv := [(1, 0), (1, 1)], ld := [], lst := [], obj := [], q := [], raw := [] }
noncomputable def strs_taker_count.an : Ann := .nil
noncomputable abbrev strs_taker_count.c : Code := Try.f27.body.getD .skip
noncomputable def strs_taker_count.J (call : Cl) (n : Nat) : Jn (AEnd × H) := realJ Try.prog strs_taker_count.A call Try.f27 strs_taker_count.an strs_taker_count.c n
abbrev strs_taker_count.F (call : Cl) (n : Nat) (J : Jn (AEnd × H)) : Prop := JFix Try.prog strs_taker_count.A call Try.f27 strs_taker_count.an strs_taker_count.c n J
def strs_taker_count.f (J : Jn (AEnd × H)) (x0 x1 x2 : AV) (h : H) : Option (AEnd × H) := J [] [] ⟨[(0, x0), (1, x1), (2, x2)], [], [], h⟩
theorem strs_taker_count.f_eq {call : Cl} {n : Nat} {J : Jn (AEnd × H)} (hJ : strs_taker_count.F call n J) (x0 x1 x2 : AV) (h : H) : strs_taker_count.f J x0 x1 x2 h =
  (callVal call h x1 [AV.canon x2]).bind fun p1 => retOr p1.1 (fun r2p => some (AEnd.pan r2p, p1.2)) fun r2 =>
  some (AEnd.ret r2, p1.2) := (hJ _ _ _ (by kernel_rfl)).trans (by kernel_rfl)
noncomputable def cur_Reader_Count.A : FAnn := { nv := 4, mv := [(1, 0)], ld := [], lst := [], obj := [], q := [], raw := [] }
noncomputable def cur_Reader_Count.an : Ann := .nil
noncomputable abbrev cur_Reader_Count.c : Code := Try.f28.body.getD .skip
noncomputable def cur_Reader_Count.J (call : Cl) (n : Nat) : Jn (AEnd × H) := realJ Try.prog cur_Reader_Count.A call Try.f28 cur_Reader_Count.an cur_Reader_Count.c n
abbrev cur_Reader_Count.F (call : Cl) (n : Nat) (J : Jn (AEnd × H)) : Prop := JFix Try.prog cur_Reader_Count.A call Try.f28 cur_Reader_Count.an cur_Reader_Count.c n J
def cur_Reader_Count.f (J : Jn (AEnd × H)) (x0 x1 : AV) (h : H) : Option (AEnd × H) := J [] [] ⟨[(0, x0), (1, x1)], [], [], h⟩
theorem cur_Reader_Count.f_eq {call : Cl} {n : Nat} {J : Jn (AEnd × H)} (hJ : cur_Reader_Count.F call n J) (x0 x1 : AV) (h : H) : cur_Reader_Count.f J x0 x1 h =
  (bx h (AV.copy x1)).bind fun p1 =>
  (call n_cur_ask_int [AV.canon x0, AV.canon (.func (.func n_cur_Reader_Count_c1) [] [AV.copy p1.1])] p1.2).bind fun p2 => retOr p2.1 (fun r3p => some (AEnd.pan r3p, p2.2)) fun r3 =>
  some (AEnd.ret r3, p2.2) := (hJ _ _ _ (by kernel_rfl)).trans (by kernel_rfl)
noncomputable def strs_taker_text.A : FAnn := { nv := 8, mv := [(6, 0), (7, 1), (10, 6), (12, 6), (16, 1), (17, 0)], ld := [], lst := [], obj := [], q := [], raw := [] }
noncomputable def strs_taker_text.an : Ann := .mk none .nil (.mk none .nil (.mk none .nil (.mk none .nil (.mk none .nil (.mk none .nil (.mk none .nil (.mk none .nil (.mk none (.mk none (.mk none (.mk none .nil (.mk (some [(0, 0), (5, 255), (7, 0), (63, 0)]) .nil .nil)) (.mk (some [(0, 0), (7, 0), (63, 0)]) .nil .nil)) .nil) (.mk (some [(0, 0), (7, 0)]) .nil .nil)))))))))
noncomputable abbrev strs_taker_text.c : Code := Try.f29.body.getD .skip
noncomputable def strs_taker_text.J (call : Cl) (n : Nat) : Jn (AEnd × H) := realJ Try.prog strs_taker_text.A call Try.f29 strs_taker_text.an strs_taker_text.c n
abbrev strs_taker_text.F (call : Cl) (n : Nat) (J : Jn (AEnd × H)) : Prop := JFix Try.prog strs_taker_text.A call Try.f29 strs_taker_text.an strs_taker_text.c n J
def strs_taker_text.f (J : Jn (AEnd × H)) (x0 : AV) (h : H) : Option (AEnd × H) := J [] [] ⟨[(0, x0)], [], [], h⟩
def strs_taker_text.j2 (J : Jn (AEnd × H)) (x0 x5 x7 x63 : AV) (h : H) : Option (AEnd × H) := J [1, 1, 1, 1, 1, 1, 1, 1, 0, 0, 0, 1] [] ⟨[(0, x0), (5, x5), (7, x7), (63, x63)], [(0, 0), (5, 255), (7, 0), (63, 0)], [], h⟩
def strs_taker_text.j1 (J : Jn (AEnd × H)) (x0 x7 x63 : AV) (h : H) : Option (AEnd × H) := J [1, 1, 1, 1, 1, 1, 1, 1, 0, 0, 1] [] ⟨[(0, x0), (7, x7), (63, x63)], [(0, 0), (7, 0), (63, 0)], [], h⟩
def strs_taker_text.j0 (J : Jn (AEnd × H)) (x0 x7 : AV) (h : H) : Option (AEnd × H) := J [1, 1, 1, 1, 1, 1, 1, 1, 1] [] ⟨[(0, x0), (7, x7)], [(0, 0), (7, 0)], [], h⟩
theorem strs_taker_text.f_eq {call : Cl} {n : Nat} {J : Jn (AEnd × H)} (hJ : strs_taker_text.F call n J) (x0 : AV) (h : H) : strs_taker_text.f J x0 h =
  (nilOk x0).bind fun v1 =>
  (fAddr 0 v1).bind fun v2 =>
  (ldCell h v2).bind fun v3 =>
  (call n_cur_Reader_At [AV.canon v3] h).bind fun p4 => retOr p4.1 (fun r5p => some (AEnd.pan r5p, p4.2)) fun r5 =>
  (nilOk x0).bind fun v6 =>
  (fAddr 0 v6).bind fun v7 =>
  (ldCell p4.2 v7).bind fun v8 =>
  (call n_strs_taker_count [AV.canon x0, AV.canon (.func (.func n_cur_Reader_Count) [AV.copy v8] []), AV.canon (.int .i64 256)] p4.2).bind fun p9 => retOr p9.1 (fun r10p => some (AEnd.pan r10p, p9.2)) fun r10 =>
  (nilOk x0).bind fun v11 =>
  (fAddr 0 v11).bind fun v12 =>
  (ldCell p9.2 v12).bind fun v13 =>
  (call n_cur_Reader_Text [AV.canon v13, AV.canon (.int .i64 256)] p9.2).bind fun p14 => retOr p14.1 (fun r15p => some (AEnd.pan r15p, p14.2)) fun r15 =>
  (nilOk x0).bind fun v16 =>
  (fAddr 0 v16).bind fun v17 =>
  (ldCell p14.2 v17).bind fun v18 =>
  (call n_cur_Reader_Err [AV.canon v18] p14.2).bind fun p19 => retOr p19.1 (fun r20p => some (AEnd.pan r20p, p19.2)) fun r20 =>
  (bin .neq r20 (.int .i64 0)).bind fun v21 =>
  condV v21 (
    (nilOk x0).bind fun v22 =>
    (fAddr 0 v22).bind fun v23 =>
    (ldCell p19.2 v23).bind fun v24 =>
    (call n_cur_Reader_At [AV.canon v24] p19.2).bind fun p25 => retOr p25.1 (fun r26p => some (AEnd.pan r26p, p25.2)) fun r26 =>
    (nilOk x0).bind fun v27 =>
    (fAddr 3 v27).bind fun v28 =>
    (stN 1 p25.2 v28 r26).bind fun p29 =>
    (nilOk x0).bind fun v30 =>
    (fAddr 0 v30).bind fun v31 =>
    (ldCell p29.2 v31).bind fun v32 =>
    (call n_cur_Reader_Err [AV.canon v32] p29.2).bind fun p33 => retOr p33.1 (fun r34p => some (AEnd.pan r34p, p33.2)) fun r34 =>
    some (AEnd.ret (.tuple [(.str []), r34]), p33.2)) (
    (nilOk x0).bind fun v35 =>
    (fAddr 3 v35).bind fun v36 =>
    (stN 1 p19.2 v36 r5).bind fun p37 =>
    (nilOk x0).bind fun v38 =>
    (fAddr 1 v38).bind fun v39 =>
    (ldCell p37.2 v39).bind fun v40 =>
    (lnStr v40).bind fun v41 =>
    (bin .gtr r10 v41).bind fun v42 =>
    condV v42 (
      some (AEnd.ret (.tuple [(.str []), (.int .i64 50)]), p37.2)) (
      (nilOk x0).bind fun v43 =>
      (fAddr 1 v43).bind fun v44 =>
      (ldCell p37.2 v44).bind fun v45 =>
      (slStr v45 none (some r10)).bind fun v46 =>
      (bin .add v46 r15).bind fun v47 =>
      (nilOk x0).bind fun v48 =>
      (fAddr 2 v48).bind fun v49 =>
      (ldCell p37.2 v49).bind fun v50 =>
      (unOp .not v50).bind fun v51 =>
      condV v51 (
        (nilOk x0).bind fun v52 =>
        (fAddr 1 v52).bind fun v53 =>
        (ldCell p37.2 v53).bind fun v54 =>
        (bin .leq v47 v54).bind fun v55 =>
        strs_taker_text.j2 J  x0 r10 v47 v55 p37.2) (
        strs_taker_text.j2 J  x0 r10 v47 (.bool false) p37.2))) := (hJ _ _ _ (by kernel_rfl)).trans (by kernel_rfl)
theorem strs_taker_text.j2_eq {call : Cl} {n : Nat} {J : Jn (AEnd × H)} (hJ : strs_taker_text.F call n J) (x0 x5 x7 x63 : AV) (h : H) : strs_taker_text.j2 J  x0 x5 x7 x63 h =
  condV x63 (
    strs_taker_text.j1 J  x0 x7 x63 h) (
    (nilOk x0).bind fun v56 =>
    (fAddr 1 v56).bind fun v57 =>
    (ldCell h v57).bind fun v58 =>
    (call n_strs_shares [AV.canon v58, AV.canon x7] h).bind fun p59 => retOr p59.1 (fun r60p => some (AEnd.pan r60p, p59.2)) fun r60 =>
    (bin .neq r60 x5).bind fun v61 =>
    strs_taker_text.j1 J  x0 x7 v61 p59.2) := (hJ _ _ _ (by kernel_rfl)).trans (by kernel_rfl)
theorem strs_taker_text.j1_eq {call : Cl} {n : Nat} {J : Jn (AEnd × H)} (hJ : strs_taker_text.F call n J) (x0 x7 x63 : AV) (h : H) : strs_taker_text.j1 J  x0 x7 x63 h =
  condV x63 (
    some (AEnd.ret (.tuple [(.str []), (.int .i64 50)]), h)) (
    (lnStr x7).bind fun v62 =>
    (bin .gtr v62 (.int .i64 256)).bind fun v63 =>
    condV v63 (
      some (AEnd.ret (.tuple [(.str []), (.int .i64 3)]), h)) (
      strs_taker_text.j0 J  x0 x7 h)) := (hJ _ _ _ (by kernel_rfl)).trans (by kernel_rfl)
theorem strs_taker_text.j0_eq {call : Cl} {n : Nat} {J : Jn (AEnd × H)} (hJ : strs_taker_text.F call n J) (x0 x7 : AV) (h : H) : strs_taker_text.j0 J  x0 x7 h =
  (call n_strings_Clone [AV.canon x7] h).bind fun p64 => retOr p64.1 (fun r65p => some (AEnd.pan r65p, p64.2)) fun r65 =>
  (nilOk x0).bind fun v66 =>
  (fAddr 1 v66).bind fun v67 =>
  (stN 1 p64.2 v67 r65).bind fun p68 =>
  (nilOk x0).bind fun v69 =>
  (fAddr 2 v69).bind fun v70 =>
  (stN 1 p68.2 v70 (.bool false)).bind fun p71 =>
  some (AEnd.ret (.tuple [(AV.copy x7), (.int .i64 0)]), p71.2) := (hJ _ _ _ (by kernel_rfl)).trans (by kernel_rfl)
noncomputable def cur_Reader_End.A : FAnn := { nv := 2, mv := [(1, 0)], ld := [], lst := [], obj := [], q := [], raw := [] }
noncomputable def cur_Reader_End.an : Ann := .nil
noncomputable abbrev cur_Reader_End.c : Code := Try.f30.body.getD .skip
noncomputable def cur_Reader_End.J (call : Cl) (n : Nat) : Jn (AEnd × H) := realJ Try.prog cur_Reader_End.A call Try.f30 cur_Reader_End.an cur_Reader_End.c n
abbrev cur_Reader_End.F (call : Cl) (n : Nat) (J : Jn (AEnd × H)) : Prop := JFix Try.prog cur_Reader_End.A call Try.f30 cur_Reader_End.an cur_Reader_End.c n J
def cur_Reader_End.f (J : Jn (AEnd × H)) (x0 : AV) (h : H) : Option (AEnd × H) := J [] [] ⟨[(0, x0)], [], [], h⟩
theorem cur_Reader_End.f_eq {call : Cl} {n : Nat} {J : Jn (AEnd × H)} (hJ : cur_Reader_End.F call n J) (x0 : AV) (h : H) : cur_Reader_End.f J x0 h =
  (call n_cur_Reader_Left [AV.canon x0] h).bind fun p1 => retOr p1.1 (fun r2p => some (AEnd.pan r2p, p1.2)) fun r2 =>
  (bin .gtr r2 (.int .i64 0)).bind fun v3 =>
  condV v3 (
    (call n_cur_Reader_Fail [AV.canon x0, AV.canon (.int .i64 3)] p1.2).bind fun p4 => retOr p4.1 (fun r5p => some (AEnd.pan r5p, p4.2)) fun r5 =>
    some (AEnd.ret (.tuple []), p4.2)) (
    some (AEnd.ret (.tuple []), p1.2)) := (hJ _ _ _ (by kernel_rfl)).trans (by kernel_rfl)
noncomputable def cur_Reader_Err.A : FAnn := { nv := 2, mv := [(3, 0)], ld := [], lst := [], obj := [], q := [], raw := [] }
noncomputable def cur_Reader_Err.an : Ann := .nil
noncomputable abbrev cur_Reader_Err.c : Code := Try.f31.body.getD .skip
noncomputable def cur_Reader_Err.J (call : Cl) (n : Nat) : Jn (AEnd × H) := realJ Try.prog cur_Reader_Err.A call Try.f31 cur_Reader_Err.an cur_Reader_Err.c n
abbrev cur_Reader_Err.F (call : Cl) (n : Nat) (J : Jn (AEnd × H)) : Prop := JFix Try.prog cur_Reader_Err.A call Try.f31 cur_Reader_Err.an cur_Reader_Err.c n J
def cur_Reader_Err.f (J : Jn (AEnd × H)) (x0 : AV) (h : H) : Option (AEnd × H) := J [] [] ⟨[(0, x0)], [], [], h⟩
theorem cur_Reader_Err.f_eq {call : Cl} {n : Nat} {J : Jn (AEnd × H)} (hJ : cur_Reader_Err.F call n J) (x0 : AV) (h : H) : cur_Reader_Err.f J x0 h =
  (eqv false (aeq Try.prog 20 48 x0 .nilPtr)).bind fun v1 =>
  condV v1 (
    some (AEnd.ret (.int .i64 6), h)) (
    (nilOk x0).bind fun v2 =>
    (fAddr 2 v2).bind fun v3 =>
    (ldCell h v3).bind fun v4 =>
    some (AEnd.ret (AV.copy v4), h)) := (hJ _ _ _ (by kernel_rfl)).trans (by kernel_rfl)
noncomputable def cur_Reader_At.A : FAnn := { nv := 2, mv := [(3, 0)], ld := [], lst := [], obj := [], q := [], raw := [] }
noncomputable def cur_Reader_At.an : Ann := .nil
noncomputable abbrev cur_Reader_At.c : Code := Try.f32.body.getD .skip
noncomputable def cur_Reader_At.J (call : Cl) (n : Nat) : Jn (AEnd × H) := realJ Try.prog cur_Reader_At.A call Try.f32 cur_Reader_At.an cur_Reader_At.c n
abbrev cur_Reader_At.F (call : Cl) (n : Nat) (J : Jn (AEnd × H)) : Prop := JFix Try.prog cur_Reader_At.A call Try.f32 cur_Reader_At.an cur_Reader_At.c n J
def cur_Reader_At.f (J : Jn (AEnd × H)) (x0 : AV) (h : H) : Option (AEnd × H) := J [] [] ⟨[(0, x0)], [], [], h⟩
theorem cur_Reader_At.f_eq {call : Cl} {n : Nat} {J : Jn (AEnd × H)} (hJ : cur_Reader_At.F call n J) (x0 : AV) (h : H) : cur_Reader_At.f J x0 h =
  (eqv false (aeq Try.prog 20 48 x0 .nilPtr)).bind fun v1 =>
  condV v1 (
    some (AEnd.ret (.int .i64 0), h)) (
    (nilOk x0).bind fun v2 =>
    (fAddr 1 v2).bind fun v3 =>
    (ldCell h v3).bind fun v4 =>
    some (AEnd.ret (AV.copy v4), h)) := (hJ _ _ _ (by kernel_rfl)).trans (by kernel_rfl)
noncomputable def ref02_Num.A : FAnn := { nv := 2, mv := [(1, 0)], ld := [], lst := [], obj := [], q := [], raw := [] }
noncomputable def ref02_Num.an : Ann := .nil
noncomputable abbrev ref02_Num.c : Code := Try.f33.body.getD .skip
noncomputable def ref02_Num.J (call : Cl) (n : Nat) : Jn (AEnd × H) := realJ Try.prog ref02_Num.A call Try.f33 ref02_Num.an ref02_Num.c n
abbrev ref02_Num.F (call : Cl) (n : Nat) (J : Jn (AEnd × H)) : Prop := JFix Try.prog ref02_Num.A call Try.f33 ref02_Num.an ref02_Num.c n J
def ref02_Num.f (J : Jn (AEnd × H)) (x0 : AV) (h : H) : Option (AEnd × H) := J [] [] ⟨[(0, x0)], [], [], h⟩
theorem ref02_Num.f_eq {call : Cl} {n : Nat} {J : Jn (AEnd × H)} (hJ : ref02_Num.F call n J) (x0 : AV) (h : H) : ref02_Num.f J x0 h =
  (cvInt .u64 x0).bind fun v1 =>
  (call n_warrantorref01_Put [AV.canon v1] h).bind fun p2 => retOr p2.1 (fun r3p => some (AEnd.pan r3p, p2.2)) fun r3 =>
  some (AEnd.ret r3, p2.2) := (hJ _ _ _ (by kernel_rfl)).trans (by kernel_rfl)
noncomputable def ref05_shares.A : FAnn := { nv := 6, mv := [(3, 0), (4, 0)], ld := [], lst := [], obj := [], q := [], raw := [] }
noncomputable def ref05_shares.an : Ann := .mk none .nil (.mk none .nil (.mk none (.mk none (.mk none (.mk (some [(0, 0), (1, 0), (5, 0)]) .nil .nil) .nil) .nil) .nil))
noncomputable abbrev ref05_shares.c : Code := Try.f34.body.getD .skip
noncomputable def ref05_shares.J (call : Cl) (n : Nat) : Jn (AEnd × H) := realJ Try.prog ref05_shares.A call Try.f34 ref05_shares.an ref05_shares.c n
abbrev ref05_shares.F (call : Cl) (n : Nat) (J : Jn (AEnd × H)) : Prop := JFix Try.prog ref05_shares.A call Try.f34 ref05_shares.an ref05_shares.c n J
def ref05_shares.f (J : Jn (AEnd × H)) (x0 x1 : AV) (h : H) : Option (AEnd × H) := J [] [] ⟨[(0, x0), (1, x1)], [], [], h⟩
def ref05_shares.l0 (J : Jn (AEnd × H)) (m0 : Nat) (x0 x1 x5 : AV) (h : H) : Option (AEnd × H) := J [1, 1, 0, 0] [m0] ⟨[(0, x0), (1, x1), (5, x5)], [(0, 0), (1, 0), (5, 0)], [], h⟩
theorem ref05_shares.f_eq {call : Cl} {n : Nat} {J : Jn (AEnd × H)} (hJ : ref05_shares.F call n J) (x0 x1 : AV) (h : H) : ref05_shares.f J x0 x1 h =
  ref05_shares.l0 J n x0 x1 (.int .i64 0) h := (hJ _ _ _ (by kernel_rfl)).trans (by kernel_rfl)
theorem ref05_shares.l0_eq {call : Cl} {n : Nat} {J : Jn (AEnd × H)} (hJ : ref05_shares.F call n J) (m0 : Nat) (x0 x1 x5 : AV) (h : H) : ref05_shares.l0 J (m0 + 1) x0 x1 x5 h =
  (lnStr x0).bind fun v1 =>
  (bin .lss x5 v1).bind fun v2 =>
  condV v2 (
    (lnStr x1).bind fun v3 =>
    (bin .lss x5 v3).bind fun v4 =>
    condV v4 (
      (ixStr x0 x5).bind fun v5 =>
      (ixStr x1 x5).bind fun v6 =>
      (bin .eql v5 v6).bind fun v7 =>
      condV v7 (
        (bin .add x5 (.int .i64 1)).bind fun v8 =>
        ref05_shares.l0 J m0 x0 x1 v8 h) (
        some (AEnd.ret (AV.copy x5), h))) (
      some (AEnd.ret (AV.copy x5), h))) (
    some (AEnd.ret (AV.copy x5), h)) := (hJ _ _ _ (by kernel_rfl)).trans (by kernel_rfl)
noncomputable def ref02_Text.A : FAnn := { nv := 2, mv := [(1, 4)], ld := [], lst := [], obj := [], q := [], raw := [] }
noncomputable def ref02_Text.an : Ann := .nil
noncomputable abbrev ref02_Text.c : Code := Try.f35.body.getD .skip
noncomputable def ref02_Text.J (call : Cl) (n : Nat) : Jn (AEnd × H) := realJ Try.prog ref02_Text.A call Try.f35 ref02_Text.an ref02_Text.c n
abbrev ref02_Text.F (call : Cl) (n : Nat) (J : Jn (AEnd × H)) : Prop := JFix Try.prog ref02_Text.A call Try.f35 ref02_Text.an ref02_Text.c n J
def ref02_Text.f (J : Jn (AEnd × H)) (x0 : AV) (h : H) : Option (AEnd × H) := J [] [] ⟨[(0, x0)], [], [], h⟩
theorem ref02_Text.f_eq {call : Cl} {n : Nat} {J : Jn (AEnd × H)} (hJ : ref02_Text.F call n J) (x0 : AV) (h : H) : ref02_Text.f J x0 h =
  (lnStr x0).bind fun v1 =>
  (cvInt .u64 v1).bind fun v2 =>
  (call n_warrantorref01_Put [AV.canon v2] h).bind fun p3 => retOr p3.1 (fun r4p => some (AEnd.pan r4p, p3.2)) fun r4 =>
  (strBytes x0).bind fun v5 =>
  (apSlice 1 1 true true p3.2 r4 v5).bind fun v6 =>
  some (AEnd.ret v6, p3.2) := (hJ _ _ _ (by kernel_rfl)).trans (by kernel_rfl)
noncomputable def slices_BinarySearch_string_string.A : FAnn := { nv := 10, mv := [(6, 0), (7, 0), (8, 2), (8, 12), (8, 13), (8, 18)], ld := [], lst := [], obj := [], q := [], raw := [] }
noncomputable def slices_BinarySearch_string_string.an : Ann := .mk none .nil (.mk none .nil (.mk none .nil (.mk none (.mk none (.mk none (.mk (some [(0, 0), (1, 0), (6, 0), (7, 0), (8, 0)]) .nil .nil) .nil) .nil) .nil)))
noncomputable abbrev slices_BinarySearch_string_string.c : Code := Try.f39.body.getD .skip
noncomputable def slices_BinarySearch_string_string.J (call : Cl) (n : Nat) : Jn (AEnd × H) := realJ Try.prog slices_BinarySearch_string_string.A call Try.f39 slices_BinarySearch_string_string.an slices_BinarySearch_string_string.c n
abbrev slices_BinarySearch_string_string.F (call : Cl) (n : Nat) (J : Jn (AEnd × H)) : Prop := JFix Try.prog slices_BinarySearch_string_string.A call Try.f39 slices_BinarySearch_string_string.an slices_BinarySearch_string_string.c n J
def slices_BinarySearch_string_string.f (J : Jn (AEnd × H)) (x0 x1 : AV) (h : H) : Option (AEnd × H) := J [] [] ⟨[(0, x0), (1, x1)], [], [], h⟩
def slices_BinarySearch_string_string.l0 (J : Jn (AEnd × H)) (m0 : Nat) (x0 x1 x6 x7 x8 : AV) (h : H) : Option (AEnd × H) := J [1, 1, 1, 0, 0] [m0] ⟨[(0, x0), (1, x1), (6, x6), (7, x7), (8, x8)], [(0, 0), (1, 0), (6, 0), (7, 0), (8, 0)], [], h⟩
theorem slices_BinarySearch_string_string.f_eq {call : Cl} {n : Nat} {J : Jn (AEnd × H)} (hJ : slices_BinarySearch_string_string.F call n J) (x0 x1 : AV) (h : H) : slices_BinarySearch_string_string.f J x0 x1 h =
  (lnSl x0).bind fun v1 =>
  slices_BinarySearch_string_string.l0 J n x0 x1 v1 (.int .i64 0) v1 h := (hJ _ _ _ (by kernel_rfl)).trans (by kernel_rfl)
theorem slices_BinarySearch_string_string.l0_eq {call : Cl} {n : Nat} {J : Jn (AEnd × H)} (hJ : slices_BinarySearch_string_string.F call n J) (m0 : Nat) (x0 x1 x6 x7 x8 : AV) (h : H) : slices_BinarySearch_string_string.l0 J (m0 + 1) x0 x1 x6 x7 x8 h =
  (bin .lss x7 x8).bind fun v2 =>
  condV v2 (
    (bin .add x7 x8).bind fun v3 =>
    (cvInt .u64 v3).bind fun v4 =>
    (bin .shr v4 (.int .u64 1)).bind fun v5 =>
    (cvInt .i64 v5).bind fun v6 =>
    (ixSlice 1 x0 v6).bind fun v7 =>
    (ldCell h v7).bind fun v8 =>
    (call n_cmp_Less_string [AV.canon v8, AV.canon x1] h).bind fun p9 => retOr p9.1 (fun r10p => some (AEnd.pan r10p, p9.2)) fun r10 =>
    condV r10 (
      (bin .add v6 (.int .i64 1)).bind fun v11 =>
      slices_BinarySearch_string_string.l0 J m0 x0 x1 x6 v11 x8 p9.2) (
      slices_BinarySearch_string_string.l0 J m0 x0 x1 x6 x7 v6 p9.2)) (
    (bin .lss x7 x6).bind fun v12 =>
    condV v12 (
      (ixSlice 1 x0 x7).bind fun v13 =>
      (ldCell h v13).bind fun v14 =>
      (bin .eql v14 x1).bind fun v15 =>
      condV v15 (
        some (AEnd.ret (.tuple [(AV.copy x7), (AV.copy (.bool true))]), h)) (
        (ixSlice 1 x0 x7).bind fun v16 =>
        (ldCell h v16).bind fun v17 =>
        (call n_slices_isNaN_string [AV.canon v17] h).bind fun p18 => retOr p18.1 (fun r19p => some (AEnd.pan r19p, p18.2)) fun r19 =>
        condV r19 (
          (call n_slices_isNaN_string [AV.canon x1] p18.2).bind fun p20 => retOr p20.1 (fun r21p => some (AEnd.pan r21p, p20.2)) fun r21 =>
          some (AEnd.ret (.tuple [(AV.copy x7), (AV.copy r21)]), p20.2)) (
          some (AEnd.ret (.tuple [(AV.copy x7), (AV.copy (.bool false))]), p18.2)))) (
      some (AEnd.ret (.tuple [(AV.copy x7), (AV.copy (.bool false))]), h))) := (hJ _ _ _ (by kernel_rfl)).trans (by kernel_rfl)
noncomputable def slices_Equal_string_string.A : FAnn := { nv := 6, mv := [(6, 5)], ld := [], lst := [], obj := [], q := [], raw := [] }
noncomputable def slices_Equal_string_string.an : Ann := .mk none .nil (.mk none .nil (.mk none (.mk none .nil (.mk none (.mk none (.mk (some [(0, 0), (1, 0), (12, 0), (13, 0)]) .nil .nil) .nil) .nil)) .nil))
noncomputable abbrev slices_Equal_string_string.c : Code := Try.f40.body.getD .skip
noncomputable def slices_Equal_string_string.J (call : Cl) (n : Nat) : Jn (AEnd × H) := realJ Try.prog slices_Equal_string_string.A call Try.f40 slices_Equal_string_string.an slices_Equal_string_string.c n
abbrev slices_Equal_string_string.F (call : Cl) (n : Nat) (J : Jn (AEnd × H)) : Prop := JFix Try.prog slices_Equal_string_string.A call Try.f40 slices_Equal_string_string.an slices_Equal_string_string.c n J
def slices_Equal_string_string.f (J : Jn (AEnd × H)) (x0 x1 : AV) (h : H) : Option (AEnd × H) := J [] [] ⟨[(0, x0), (1, x1)], [], [], h⟩
def slices_Equal_string_string.l0 (J : Jn (AEnd × H)) (m0 : Nat) (x0 x1 x12 x13 : AV) (h : H) : Option (AEnd × H) := J [1, 1, 0, 1, 0] [m0] ⟨[(0, x0), (1, x1), (12, x12), (13, x13)], [(0, 0), (1, 0), (12, 0), (13, 0)], [], h⟩
theorem slices_Equal_string_string.f_eq {call : Cl} {n : Nat} {J : Jn (AEnd × H)} (hJ : slices_Equal_string_string.F call n J) (x0 x1 : AV) (h : H) : slices_Equal_string_string.f J x0 x1 h =
  (lnSl x0).bind fun v1 =>
  (lnSl x1).bind fun v2 =>
  (bin .neq v1 v2).bind fun v3 =>
  condV v3 (
    some (AEnd.ret (.bool false), h)) (
    (lnSl x0).bind fun v4 =>
    slices_Equal_string_string.l0 J n x0 x1 v4 (.int .i64 0) h) := (hJ _ _ _ (by kernel_rfl)).trans (by kernel_rfl)
theorem slices_Equal_string_string.l0_eq {call : Cl} {n : Nat} {J : Jn (AEnd × H)} (hJ : slices_Equal_string_string.F call n J) (m0 : Nat) (x0 x1 x12 x13 : AV) (h : H) : slices_Equal_string_string.l0 J (m0 + 1) x0 x1 x12 x13 h =
  (bin .lss x13 x12).bind fun v5 =>
  condV v5 (
    (ixSlice 1 x0 x13).bind fun v6 =>
    (ldCell h v6).bind fun v7 =>
    (ixSlice 1 x1 x13).bind fun v8 =>
    (ldCell h v8).bind fun v9 =>
    (bin .neq v7 v9).bind fun v10 =>
    condV v10 (
      some (AEnd.ret (.bool false), h)) (
      (bin .add x13 (.int .i64 1)).bind fun v11 =>
      slices_Equal_string_string.l0 J m0 x0 x1 x12 v11 h)) (
    some (AEnd.ret (.bool true), h)) := (hJ _ _ _ (by kernel_rfl)).trans (by kernel_rfl)
noncomputable def cur_Pen_put.A : FAnn := { nv := 4, mv := [(1, 1), (1, 5)], ld := [(1, 4)], lst := [], obj := [], q := [], raw := [] }
noncomputable def cur_Pen_put.an : Ann := .nil
noncomputable abbrev cur_Pen_put.c : Code := Try.f41.body.getD .skip
noncomputable def cur_Pen_put.J (call : Cl) (n : Nat) : Jn (AEnd × H) := realJ Try.prog cur_Pen_put.A call Try.f41 cur_Pen_put.an cur_Pen_put.c n
abbrev cur_Pen_put.F (call : Cl) (n : Nat) (J : Jn (AEnd × H)) : Prop := JFix Try.prog cur_Pen_put.A call Try.f41 cur_Pen_put.an cur_Pen_put.c n J
def cur_Pen_put.f (J : Jn (AEnd × H)) (x0 x1 : AV) (h : H) : Option (AEnd × H) := J [] [] ⟨[(0, x0), (1, x1)], [], [], h⟩
theorem cur_Pen_put.f_eq {call : Cl} {n : Nat} {J : Jn (AEnd × H)} (hJ : cur_Pen_put.F call n J) (x0 x1 : AV) (h : H) : cur_Pen_put.f J x0 x1 h =
  (eqv true (aeq Try.prog 20 38 x0 .nilPtr)).bind fun v1 =>
  condV v1 (
    (nilOk x0).bind fun v2 =>
    (fAddr 0 v2).bind fun v3 =>
    (ldTake h v3).bind fun p4 =>
    (apSlice 1 1 true true p4.2 p4.1 x1).bind fun v5 =>
    (nilOk x0).bind fun v6 =>
    (fAddr 0 v6).bind fun v7 =>
    (stN 1 p4.2 v7 v5).bind fun p8 =>
    some (AEnd.ret (.tuple []), p8.2)) (
    some (AEnd.ret (.tuple []), h)) := (hJ _ _ _ (by kernel_rfl)).trans (by kernel_rfl)
noncomputable def leb_Put.A : FAnn := { nv := 4, mv := [(3, 0), (4, 0), (5, 0), (5, 1)], ld := [], lst := [(1, 0)], obj := [], q := [], raw := [] }
noncomputable def leb_Put.an : Ann := .mk none .nil (.mk none .nil (.mk none (.mk none (.mk none (.mk (some [(0, 0), (3, 255)]) .nil .nil) .nil) .nil) .nil))
noncomputable abbrev leb_Put.c : Code := Try.f42.body.getD .skip
noncomputable def leb_Put.J (call : Cl) (n : Nat) : Jn (AEnd × H) := realJ Try.prog leb_Put.A call Try.f42 leb_Put.an leb_Put.c n
abbrev leb_Put.F (call : Cl) (n : Nat) (J : Jn (AEnd × H)) : Prop := JFix Try.prog leb_Put.A call Try.f42 leb_Put.an leb_Put.c n J
def leb_Put.f (J : Jn (AEnd × H)) (x0 : AV) (h : H) : Option (AEnd × H) := J [] [] ⟨[(0, x0)], [], [], h⟩
def leb_Put.l0 (J : Jn (AEnd × H)) (m0 : Nat) (x0 x3 : AV) (h : H) : Option (AEnd × H) := J [1, 1, 0, 0] [m0] ⟨[(0, x0), (3, x3)], [(0, 0), (3, 255)], [], h⟩
theorem leb_Put.f_eq {call : Cl} {n : Nat} {J : Jn (AEnd × H)} (hJ : leb_Put.F call n J) (x0 : AV) (h : H) : leb_Put.f J x0 h =
  (mkSlice 1 1 [.int .u8 0] true h (.int .i64 0) (.int .i64 10)).bind fun p1 =>
  leb_Put.l0 J n x0 p1.1 p1.2 := (hJ _ _ _ (by kernel_rfl)).trans (by kernel_rfl)
theorem leb_Put.l0_eq {call : Cl} {n : Nat} {J : Jn (AEnd × H)} (hJ : leb_Put.F call n J) (m0 : Nat) (x0 x3 : AV) (h : H) : leb_Put.l0 J (m0 + 1) x0 x3 h =
  (bin .geq x0 (.int .u64 128)).bind fun v2 =>
  condV v2 (
    (cvInt .u8 x0).bind fun v3 =>
    (bin .or v3 (.int .u8 128)).bind fun v4 =>
    (mkRows 1 [.int .u8 0] 1 [(0, v4)]).bind fun v5 =>
    (apSlice 1 1 true true h x3 v5).bind fun v6 =>
    (bin .shr x0 (.int .u64 7)).bind fun v7 =>
    leb_Put.l0 J m0 v7 v6 h) (
    (cvInt .u8 x0).bind fun v8 =>
    (mkRows 1 [.int .u8 0] 1 [(0, v8)]).bind fun v9 =>
    (apSlice 1 1 true true h x3 v9).bind fun v10 =>
    some (AEnd.ret v10, h)) := (hJ _ _ _ (by kernel_rfl)).trans (by kernel_rfl)
noncomputable def slices_Clone_byte_byte.A : FAnn := { nv := 2, mv := [(3, 1)], ld := [], lst := [], obj := [], q := [], raw := [] }
noncomputable def slices_Clone_byte_byte.an : Ann := .nil
noncomputable abbrev slices_Clone_byte_byte.c : Code := Try.f43.body.getD .skip
noncomputable def slices_Clone_byte_byte.J (call : Cl) (n : Nat) : Jn (AEnd × H) := realJ Try.prog slices_Clone_byte_byte.A call Try.f43 slices_Clone_byte_byte.an slices_Clone_byte_byte.c n
abbrev slices_Clone_byte_byte.F (call : Cl) (n : Nat) (J : Jn (AEnd × H)) : Prop := JFix Try.prog slices_Clone_byte_byte.A call Try.f43 slices_Clone_byte_byte.an slices_Clone_byte_byte.c n J
def slices_Clone_byte_byte.f (J : Jn (AEnd × H)) (x0 : AV) (h : H) : Option (AEnd × H) := J [] [] ⟨[(0, x0)], [], [], h⟩
theorem slices_Clone_byte_byte.f_eq {call : Cl} {n : Nat} {J : Jn (AEnd × H)} (hJ : slices_Clone_byte_byte.F call n J) (x0 : AV) (h : H) : slices_Clone_byte_byte.f J x0 h =
  (slNil false x0).bind fun v1 =>
  condV v1 (
    some (AEnd.ret (.list [] .cap), h)) (
    (mkRows 1 [.int .u8 0] 0 []).bind fun v2 =>
    (apSlice 1 1 true false h v2 x0).bind fun v3 =>
    some (AEnd.ret v3, h)) := (hJ _ _ _ (by kernel_rfl)).trans (by kernel_rfl)
noncomputable def slices_IndexFunc_string_string.A : FAnn := { nv := 6, mv := [(5, 0)], ld := [], lst := [], obj := [], q := [], raw := [] }
noncomputable def slices_IndexFunc_string_string.an : Ann := .mk none .nil (.mk none (.mk none .nil (.mk none (.mk none (.mk (some [(0, 0), (1, 0), (7, 0), (8, 0)]) .nil .nil) .nil) .nil)) .nil)
noncomputable abbrev slices_IndexFunc_string_string.c : Code := Try.f44.body.getD .skip
noncomputable def slices_IndexFunc_string_string.J (call : Cl) (n : Nat) : Jn (AEnd × H) := realJ Try.prog slices_IndexFunc_string_string.A call Try.f44 slices_IndexFunc_string_string.an slices_IndexFunc_string_string.c n
abbrev slices_IndexFunc_string_string.F (call : Cl) (n : Nat) (J : Jn (AEnd × H)) : Prop := JFix Try.prog slices_IndexFunc_string_string.A call Try.f44 slices_IndexFunc_string_string.an slices_IndexFunc_string_string.c n J
def slices_IndexFunc_string_string.f (J : Jn (AEnd × H)) (x0 x1 : AV) (h : H) : Option (AEnd × H) := J [] [] ⟨[(0, x0), (1, x1)], [], [], h⟩
def slices_IndexFunc_string_string.l0 (J : Jn (AEnd × H)) (m0 : Nat) (x0 x1 x7 x8 : AV) (h : H) : Option (AEnd × H) := J [1, 0, 1, 0] [m0] ⟨[(0, x0), (1, x1), (7, x7), (8, x8)], [(0, 0), (1, 0), (7, 0), (8, 0)], [], h⟩
theorem slices_IndexFunc_string_string.f_eq {call : Cl} {n : Nat} {J : Jn (AEnd × H)} (hJ : slices_IndexFunc_string_string.F call n J) (x0 x1 : AV) (h : H) : slices_IndexFunc_string_string.f J x0 x1 h =
  (lnSl x0).bind fun v1 =>
  slices_IndexFunc_string_string.l0 J n x0 x1 v1 (.int .i64 0) h := (hJ _ _ _ (by kernel_rfl)).trans (by kernel_rfl)
theorem slices_IndexFunc_string_string.l0_eq {call : Cl} {n : Nat} {J : Jn (AEnd × H)} (hJ : slices_IndexFunc_string_string.F call n J) (m0 : Nat) (x0 x1 x7 x8 : AV) (h : H) : slices_IndexFunc_string_string.l0 J (m0 + 1) x0 x1 x7 x8 h =
  (bin .lss x8 x7).bind fun v2 =>
  condV v2 (
    (ixSlice 1 x0 x8).bind fun v3 =>
    (ldCell h v3).bind fun v4 =>
    (callVal call h x1 [AV.canon v4]).bind fun p5 => retOr p5.1 (fun r6p => some (AEnd.pan r6p, p5.2)) fun r6 =>
    condV r6 (
      some (AEnd.ret (AV.copy x8), p5.2)) (
      (bin .add x8 (.int .i64 1)).bind fun v7 =>
      slices_IndexFunc_string_string.l0 J m0 x0 x1 x7 v7 p5.2)) (
    some (AEnd.ret (.int .i64 (-1)), h)) := (hJ _ _ _ (by kernel_rfl)).trans (by kernel_rfl)
noncomputable def cur_ask_int.A : FAnn := { nv := 6, mv := [(5, 0)], ld := [], lst := [], obj := [], q := [], raw := [], df := [(57, { nv := 6, mv := [(1, 0), (3, 2)], ld := [], raw := [] })] }
noncomputable def cur_ask_int.an : Ann := .mk none .nil (.mk none (.mk none .nil (.mk (some [(1, 0), (2, 0), (4, 0), (14, 0)]) .nil .nil)) (.mk (some [(1, 0), (2, 0), (4, 0)]) .nil .nil))
noncomputable abbrev cur_ask_int.c : Code := Try.f45.body.getD .skip
noncomputable abbrev cur_ask_int.dc (call : Cl) (n : Nat) := dcall Try.prog cur_ask_int.A call n
theorem cur_ask_int.d57_eq {call : Cl} {n : Nat} (x0 x1 x2 : AV) (h : H) (v : AV) : cur_ask_int.dc call n n_cur_ask_int__c1 [x0, x1, x2] h v =
  (taTo (.agg [.int .i64 0]) t_cur_broken true v).bind fun v1 =>
  (exTuple 0 v1).bind fun v2 =>
  (exTuple 1 v1).bind fun v3 =>
  let h4 : H := h ++ [.arr [.int .i64 0] false]
  (stN 1 h4 (.ptr h.length 0) (AV.copy v2)).bind fun p5 =>
  condV v3 (
    (ldCell p5.2 x2).bind fun v6 =>
    (ldCell p5.2 x2).bind fun v7 =>
    (ldCell p5.2 x0).bind fun v8 =>
    (fAddr 0 (.ptr h.length 0)).bind fun v9 =>
    (ldCell p5.2 v9).bind fun v10 =>
    (stN 1 p5.2 x1 (.int .i64 0)).bind fun p11 =>
    whenB (eqO (ldCell p11.2 v9) v10) (
      (nilOk v6).bind fun v12 =>
      (fAddr 1 v12).bind fun v13 =>
      (stN 1 p11.2 v13 (AV.copy v8)).bind fun p14 =>
      whenB (eqO (ldCell p14.2 v9) v10) (
        (nilOk v7).bind fun v15 =>
        (fAddr 2 v15).bind fun v16 =>
        (stN 1 p14.2 v16 (AV.copy v10)).bind fun p17 =>
        some p17.2))) (
    some p5.2) := (dcall_eq (P := Try.prog) (A := cur_ask_int.A) (f := 57) (d := { nv := 6, mv := [(1, 0), (3, 2)], ld := [], raw := [] }) (c := Try.f57.body.getD .skip) (args := [x0, x1, x2]) (by kernel_rfl) Try.func57 (by kernel_rfl) (by kernel_rfl)).trans (by kernel_rfl)
noncomputable def cur_ask_int.J (call : Cl) (n : Nat) : Jn (AEnd × H) := realJ Try.prog cur_ask_int.A call Try.f45 cur_ask_int.an cur_ask_int.c n
abbrev cur_ask_int.F (call : Cl) (n : Nat) (J : Jn (AEnd × H)) : Prop := JFix Try.prog cur_ask_int.A call Try.f45 cur_ask_int.an cur_ask_int.c n J
def cur_ask_int.f (J : Jn (AEnd × H)) (x0 x1 : AV) (h : H) : Option (AEnd × H) := J [] [] ⟨[(0, x0), (1, x1)], [], [], h⟩
def cur_ask_int.j1 (J : Jn (AEnd × H)) (x1 x2 x4 x14 : AV) (h : H) : Option (AEnd × H) := J [1, 0, 1] [] ⟨[(1, x1), (2, x2), (4, x4), (14, x14)], [(1, 0), (2, 0), (4, 0), (14, 0)], [], h⟩
def cur_ask_int.j0 (J : Jn (AEnd × H)) (x1 x2 x4 : AV) (h : H) : Option (AEnd × H) := J [1, 1] [] ⟨[(1, x1), (2, x2), (4, x4)], [(1, 0), (2, 0), (4, 0)], [], h⟩
theorem cur_ask_int.f_eq {call : Cl} {n : Nat} {J : Jn (AEnd × H)} (hJ : cur_ask_int.F call n J) (x0 x1 : AV) (h : H) : cur_ask_int.f J x0 x1 h =
  (bx h (AV.copy x0)).bind fun p1 =>
  let h2 : H := p1.2 ++ [.arr [.int .i64 0] false]
  (ldCell h2 p1.1).bind fun v3 =>
  (eqv false (aeq Try.prog 20 48 v3 .nilPtr)).bind fun v4 =>
  condV v4 (
    cur_ask_int.j1 J  x1 p1.1 (.ptr p1.2.length 0) (.bool true) h2) (
    (ldCell h2 p1.1).bind fun v5 =>
    (nilOk v5).bind fun v6 =>
    (fAddr 2 v6).bind fun v7 =>
    (ldCell h2 v7).bind fun v8 =>
    (bin .neq v8 (.int .i64 0)).bind fun v9 =>
    cur_ask_int.j1 J  x1 p1.1 (.ptr p1.2.length 0) v9 h2) := (hJ _ _ _ (by kernel_rfl)).trans (by kernel_rfl)
theorem cur_ask_int.j1_eq {call : Cl} {n : Nat} {J : Jn (AEnd × H)} (hJ : cur_ask_int.F call n J) (x1 x2 x4 x14 : AV) (h : H) : cur_ask_int.j1 J  x1 x2 x4 x14 h =
  condV x14 (
    (ldCell h x4).bind fun v10 =>
    (stN 1 h x4 (AV.copy v10)).bind fun p11 =>
    (resN [(ldCell p11.2 x4).map AV.copy]).map fun v => (AEnd.ret v, p11.2)) (
    cur_ask_int.j0 J  x1 x2 x4 h) := (hJ _ _ _ (by kernel_rfl)).trans (by kernel_rfl)
theorem cur_ask_int.j0_eq {call : Cl} {n : Nat} {J : Jn (AEnd × H)} (hJ : cur_ask_int.F call n J) (x1 x2 x4 : AV) (h : H) : cur_ask_int.j0 J  x1 x2 x4 h =
  (ldCell h x2).bind fun v12 =>
  (nilOk v12).bind fun v13 =>
  (fAddr 1 v13).bind fun v14 =>
  (ldCell h v14).bind fun v15 =>
  let h16 : H := h ++ [.arr [.int .i64 0] false]
  (stN 1 h16 (.ptr h.length 0) (AV.copy v15)).bind fun p17 =>
  (ldCell p17.2 x2).bind fun v18 =>
  (callVal call p17.2 x1 [AV.canon v18]).bind fun p19 => retOr p19.1 (fun r20p => (cur_ask_int.dc call n n_cur_ask_int__c1 [AV.copy (.ptr h.length 0), AV.copy x4, AV.copy x2] p19.2 r20p).bind fun h23 =>
  (resN [(ldCell h23 x4).map AV.copy]).map fun v => (AEnd.ret v, h23)) fun r20 =>
  (stN 1 p19.2 x4 r20).bind fun p21 =>
  (cur_ask_int.dc call n n_cur_ask_int__c1 [AV.copy (.ptr h.length 0), AV.copy x4, AV.copy x2] p21.2 .nilIface).bind fun h22 =>
  (resN [(ldCell h22 x4).map AV.copy]).map fun v => (AEnd.ret v, h22) := (hJ _ _ _ (by kernel_rfl)).trans (by kernel_rfl)
noncomputable def cur_Reader_Count_c1.A : FAnn := { nv := 3, mv := [(1, 0)], ld := [], lst := [], obj := [], q := [], raw := [] }
noncomputable def cur_Reader_Count_c1.an : Ann := .nil
noncomputable abbrev cur_Reader_Count_c1.c : Code := Try.f46.body.getD .skip
noncomputable def cur_Reader_Count_c1.J (call : Cl) (n : Nat) : Jn (AEnd × H) := realJ Try.prog cur_Reader_Count_c1.A call Try.f46 cur_Reader_Count_c1.an cur_Reader_Count_c1.c n
abbrev cur_Reader_Count_c1.F (call : Cl) (n : Nat) (J : Jn (AEnd × H)) : Prop := JFix Try.prog cur_Reader_Count_c1.A call Try.f46 cur_Reader_Count_c1.an cur_Reader_Count_c1.c n J
def cur_Reader_Count_c1.f (J : Jn (AEnd × H)) (x0 x1 : AV) (h : H) : Option (AEnd × H) := J [] [] ⟨[(0, x0), (1, x1)], [], [], h⟩
theorem cur_Reader_Count_c1.f_eq {call : Cl} {n : Nat} {J : Jn (AEnd × H)} (hJ : cur_Reader_Count_c1.F call n J) (x0 x1 : AV) (h : H) : cur_Reader_Count_c1.f J x0 x1 h =
  (ldCell h x1).bind fun v1 =>
  (call n_cur_Reader_upto [AV.canon x0, AV.canon v1] h).bind fun p2 => retOr p2.1 (fun r3p => some (AEnd.pan r3p, p2.2)) fun r3 =>
  some (AEnd.ret r3, p2.2) := (hJ _ _ _ (by kernel_rfl)).trans (by kernel_rfl)
noncomputable def cur_Reader_upto.A : FAnn := { nv := 6, mv := [(1, 0), (2, 4), (4, 0)], ld := [], lst := [], obj := [], q := [], raw := [] }
noncomputable def cur_Reader_upto.an : Ann := .mk none .nil (.mk none .nil (.mk none (.mk none .nil (.mk (some [(5, 255), (15, 0)]) .nil .nil)) .nil))
noncomputable abbrev cur_Reader_upto.c : Code := Try.f47.body.getD .skip
noncomputable def cur_Reader_upto.J (call : Cl) (n : Nat) : Jn (AEnd × H) := realJ Try.prog cur_Reader_upto.A call Try.f47 cur_Reader_upto.an cur_Reader_upto.c n
abbrev cur_Reader_upto.F (call : Cl) (n : Nat) (J : Jn (AEnd × H)) : Prop := JFix Try.prog cur_Reader_upto.A call Try.f47 cur_Reader_upto.an cur_Reader_upto.c n J
def cur_Reader_upto.f (J : Jn (AEnd × H)) (x0 x1 : AV) (h : H) : Option (AEnd × H) := J [] [] ⟨[(0, x0), (1, x1)], [], [], h⟩
def cur_Reader_upto.j0 (J : Jn (AEnd × H)) (x5 x15 : AV) (h : H) : Option (AEnd × H) := J [1, 1, 0, 1] [] ⟨[(5, x5), (15, x15)], [(5, 255), (15, 0)], [], h⟩
theorem cur_Reader_upto.f_eq {call : Cl} {n : Nat} {J : Jn (AEnd × H)} (hJ : cur_Reader_upto.F call n J) (x0 x1 : AV) (h : H) : cur_Reader_upto.f J x0 x1 h =
  (call n_cur_Reader_number [AV.canon x0] h).bind fun p1 => retOr p1.1 (fun r2p => some (AEnd.pan r2p, p1.2)) fun r2 =>
  (bin .lss x1 (.int .i64 0)).bind fun v3 =>
  condV v3 (
    cur_Reader_upto.j0 J  r2 (.bool true) p1.2) (
    (cvInt .u64 x1).bind fun v4 =>
    (bin .gtr r2 v4).bind fun v5 =>
    cur_Reader_upto.j0 J  r2 v5 p1.2) := (hJ _ _ _ (by kernel_rfl)).trans (by kernel_rfl)
theorem cur_Reader_upto.j0_eq {call : Cl} {n : Nat} {J : Jn (AEnd × H)} (hJ : cur_Reader_upto.F call n J) (x5 x15 : AV) (h : H) : cur_Reader_upto.j0 J  x5 x15 h =
  condV x15 (
    (mkAgg [.int .i64 0] [(0, 1, AV.copy (.int .i64 3))]).bind fun v6 =>
    panOr (.iface t_cur_broken (AV.copy v6)) fun w => some (AEnd.pan w, h)) (
    (cvInt .i64 x5).bind fun v7 =>
    some (AEnd.ret v7, h)) := (hJ _ _ _ (by kernel_rfl)).trans (by kernel_rfl)
noncomputable def cur_Reader_Text.A : FAnn := { nv := 4, mv := [(1, 0)], ld := [], lst := [], obj := [], q := [], raw := [] }
noncomputable def cur_Reader_Text.an : Ann := .nil
noncomputable abbrev cur_Reader_Text.c : Code := Try.f48.body.getD .skip
noncomputable def cur_Reader_Text.J (call : Cl) (n : Nat) : Jn (AEnd × H) := realJ Try.prog cur_Reader_Text.A call Try.f48 cur_Reader_Text.an cur_Reader_Text.c n
abbrev cur_Reader_Text.F (call : Cl) (n : Nat) (J : Jn (AEnd × H)) : Prop := JFix Try.prog cur_Reader_Text.A call Try.f48 cur_Reader_Text.an cur_Reader_Text.c n J
def cur_Reader_Text.f (J : Jn (AEnd × H)) (x0 x1 : AV) (h : H) : Option (AEnd × H) := J [] [] ⟨[(0, x0), (1, x1)], [], [], h⟩
theorem cur_Reader_Text.f_eq {call : Cl} {n : Nat} {J : Jn (AEnd × H)} (hJ : cur_Reader_Text.F call n J) (x0 x1 : AV) (h : H) : cur_Reader_Text.f J x0 x1 h =
  (bx h (AV.copy x1)).bind fun p1 =>
  (call n_cur_ask_string [AV.canon x0, AV.canon (.func (.func n_cur_Reader_Text_c1) [] [AV.copy p1.1])] p1.2).bind fun p2 => retOr p2.1 (fun r3p => some (AEnd.pan r3p, p2.2)) fun r3 =>
  some (AEnd.ret r3, p2.2) := (hJ _ _ _ (by kernel_rfl)).trans (by kernel_rfl)
noncomputable def strings_Clone.A : FAnn := { nv := 2, mv := [(1, 0)], ld := [], lst := [], obj := [], q := [], raw := [] }
noncomputable def strings_Clone.an : Ann := .nil
noncomputable abbrev strings_Clone.c : Code := Try.f49.body.getD .skip
noncomputable def strings_Clone.J (call : Cl) (n : Nat) : Jn (AEnd × H) := realJ Try.prog strings_Clone.A call Try.f49 strings_Clone.an strings_Clone.c n
abbrev strings_Clone.F (call : Cl) (n : Nat) (J : Jn (AEnd × H)) : Prop := JFix Try.prog strings_Clone.A call Try.f49 strings_Clone.an strings_Clone.c n J
def strings_Clone.f (J : Jn (AEnd × H)) (x0 : AV) (h : H) : Option (AEnd × H) := J [] [] ⟨[(0, x0)], [], [], h⟩
theorem strings_Clone.f_eq {call : Cl} {n : Nat} {J : Jn (AEnd × H)} (hJ : strings_Clone.F call n J) (x0 : AV) (h : H) : strings_Clone.f J x0 h =
  (call n_stringslite_Clone [AV.canon x0] h).bind fun p1 => retOr p1.1 (fun r2p => some (AEnd.pan r2p, p1.2)) fun r2 =>
  some (AEnd.ret r2, p1.2) := (hJ _ _ _ (by kernel_rfl)).trans (by kernel_rfl)
noncomputable def cur_Reader_Left.A : FAnn := { nv := 2, mv := [(3, 5)], ld := [], lst := [], obj := [], q := [], raw := [] }
noncomputable def cur_Reader_Left.an : Ann := .mk none .nil (.mk none (.mk none .nil (.mk (some [(0, 0), (11, 0)]) .nil .nil)) (.mk (some [(0, 0)]) .nil .nil))
noncomputable abbrev cur_Reader_Left.c : Code := Try.f50.body.getD .skip
noncomputable def cur_Reader_Left.J (call : Cl) (n : Nat) : Jn (AEnd × H) := realJ Try.prog cur_Reader_Left.A call Try.f50 cur_Reader_Left.an cur_Reader_Left.c n
abbrev cur_Reader_Left.F (call : Cl) (n : Nat) (J : Jn (AEnd × H)) : Prop := JFix Try.prog cur_Reader_Left.A call Try.f50 cur_Reader_Left.an cur_Reader_Left.c n J
def cur_Reader_Left.f (J : Jn (AEnd × H)) (x0 : AV) (h : H) : Option (AEnd × H) := J [] [] ⟨[(0, x0)], [], [], h⟩
def cur_Reader_Left.j1 (J : Jn (AEnd × H)) (x0 x11 : AV) (h : H) : Option (AEnd × H) := J [1, 0, 1] [] ⟨[(0, x0), (11, x11)], [(0, 0), (11, 0)], [], h⟩
def cur_Reader_Left.j0 (J : Jn (AEnd × H)) (x0 : AV) (h : H) : Option (AEnd × H) := J [1, 1] [] ⟨[(0, x0)], [(0, 0)], [], h⟩
theorem cur_Reader_Left.f_eq {call : Cl} {n : Nat} {J : Jn (AEnd × H)} (hJ : cur_Reader_Left.F call n J) (x0 : AV) (h : H) : cur_Reader_Left.f J x0 h =
  (eqv false (aeq Try.prog 20 48 x0 .nilPtr)).bind fun v1 =>
  condV v1 (
    cur_Reader_Left.j1 J  x0 (.bool true) h) (
    (nilOk x0).bind fun v2 =>
    (fAddr 2 v2).bind fun v3 =>
    (ldCell h v3).bind fun v4 =>
    (bin .neq v4 (.int .i64 0)).bind fun v5 =>
    cur_Reader_Left.j1 J  x0 v5 h) := (hJ _ _ _ (by kernel_rfl)).trans (by kernel_rfl)
theorem cur_Reader_Left.j1_eq {call : Cl} {n : Nat} {J : Jn (AEnd × H)} (hJ : cur_Reader_Left.F call n J) (x0 x11 : AV) (h : H) : cur_Reader_Left.j1 J  x0 x11 h =
  condV x11 (
    some (AEnd.ret (.int .i64 0), h)) (
    cur_Reader_Left.j0 J  x0 h) := (hJ _ _ _ (by kernel_rfl)).trans (by kernel_rfl)
theorem cur_Reader_Left.j0_eq {call : Cl} {n : Nat} {J : Jn (AEnd × H)} (hJ : cur_Reader_Left.F call n J) (x0 : AV) (h : H) : cur_Reader_Left.j0 J  x0 h =
  (nilOk x0).bind fun v6 =>
  (fAddr 0 v6).bind fun v7 =>
  (ldCell h v7).bind fun v8 =>
  (lnSl v8).bind fun v9 =>
  (nilOk x0).bind fun v10 =>
  (fAddr 1 v10).bind fun v11 =>
  (ldCell h v11).bind fun v12 =>
  (bin .sub v9 v12).bind fun v13 =>
  some (AEnd.ret (AV.copy v13), h) := (hJ _ _ _ (by kernel_rfl)).trans (by kernel_rfl)
noncomputable def cur_Reader_Fail.A : FAnn := { nv := 4, mv := [(3, 0), (3, 1)], ld := [], lst := [], obj := [], q := [], raw := [] }
noncomputable def cur_Reader_Fail.an : Ann := .mk none .nil (.mk (some [(0, 0), (1, 0)]) .nil (.mk (some [(0, 0), (1, 0), (14, 0)]) .nil .nil))
noncomputable abbrev cur_Reader_Fail.c : Code := Try.f51.body.getD .skip
noncomputable def cur_Reader_Fail.J (call : Cl) (n : Nat) : Jn (AEnd × H) := realJ Try.prog cur_Reader_Fail.A call Try.f51 cur_Reader_Fail.an cur_Reader_Fail.c n
abbrev cur_Reader_Fail.F (call : Cl) (n : Nat) (J : Jn (AEnd × H)) : Prop := JFix Try.prog cur_Reader_Fail.A call Try.f51 cur_Reader_Fail.an cur_Reader_Fail.c n J
def cur_Reader_Fail.f (J : Jn (AEnd × H)) (x0 x1 : AV) (h : H) : Option (AEnd × H) := J [] [] ⟨[(0, x0), (1, x1)], [], [], h⟩
def cur_Reader_Fail.j0 (J : Jn (AEnd × H)) (x0 x1 : AV) (h : H) : Option (AEnd × H) := J [1] [] ⟨[(0, x0), (1, x1)], [(0, 0), (1, 0)], [], h⟩
def cur_Reader_Fail.j1 (J : Jn (AEnd × H)) (x0 x1 x14 : AV) (h : H) : Option (AEnd × H) := J [1, 1] [] ⟨[(0, x0), (1, x1), (14, x14)], [(0, 0), (1, 0), (14, 0)], [], h⟩
theorem cur_Reader_Fail.f_eq {call : Cl} {n : Nat} {J : Jn (AEnd × H)} (hJ : cur_Reader_Fail.F call n J) (x0 x1 : AV) (h : H) : cur_Reader_Fail.f J x0 x1 h =
  (bin .eql x1 (.int .i64 0)).bind fun v1 =>
  condV v1 (
    cur_Reader_Fail.j0 J  x0 (.int .i64 1) h) (
    cur_Reader_Fail.j0 J  x0 x1 h) := (hJ _ _ _ (by kernel_rfl)).trans (by kernel_rfl)
theorem cur_Reader_Fail.j0_eq {call : Cl} {n : Nat} {J : Jn (AEnd × H)} (hJ : cur_Reader_Fail.F call n J) (x0 x1 : AV) (h : H) : cur_Reader_Fail.j0 J  x0 x1 h =
  (eqv true (aeq Try.prog 20 48 x0 .nilPtr)).bind fun v2 =>
  condV v2 (
    (nilOk x0).bind fun v3 =>
    (fAddr 2 v3).bind fun v4 =>
    (ldCell h v4).bind fun v5 =>
    (bin .eql v5 (.int .i64 0)).bind fun v6 =>
    cur_Reader_Fail.j1 J  x0 x1 v6 h) (
    cur_Reader_Fail.j1 J  x0 x1 (.bool false) h) := (hJ _ _ _ (by kernel_rfl)).trans (by kernel_rfl)
theorem cur_Reader_Fail.j1_eq {call : Cl} {n : Nat} {J : Jn (AEnd × H)} (hJ : cur_Reader_Fail.F call n J) (x0 x1 x14 : AV) (h : H) : cur_Reader_Fail.j1 J  x0 x1 x14 h =
  condV x14 (
    (nilOk x0).bind fun v7 =>
    (fAddr 2 v7).bind fun v8 =>
    (stN 1 h v8 (AV.copy x1)).bind fun p9 =>
    some (AEnd.ret (.tuple []), p9.2)) (
    some (AEnd.ret (.tuple []), h)) := (hJ _ _ _ (by kernel_rfl)).trans (by kernel_rfl)
noncomputable def ref01_Put.A : FAnn := { nv := 4, mv := [(3, 0), (4, 0), (5, 0), (5, 1)], ld := [], lst := [], obj := [], q := [], raw := [] }
noncomputable def ref01_Put.an : Ann := .mk none .nil (.mk none .nil (.mk none (.mk none (.mk none (.mk (some [(0, 0), (3, 255)]) .nil .nil) .nil) .nil) .nil))
noncomputable abbrev ref01_Put.c : Code := Try.f52.body.getD .skip
noncomputable def ref01_Put.J (call : Cl) (n : Nat) : Jn (AEnd × H) := realJ Try.prog ref01_Put.A call Try.f52 ref01_Put.an ref01_Put.c n
abbrev ref01_Put.F (call : Cl) (n : Nat) (J : Jn (AEnd × H)) : Prop := JFix Try.prog ref01_Put.A call Try.f52 ref01_Put.an ref01_Put.c n J
def ref01_Put.f (J : Jn (AEnd × H)) (x0 : AV) (h : H) : Option (AEnd × H) := J [] [] ⟨[(0, x0)], [], [], h⟩
def ref01_Put.l0 (J : Jn (AEnd × H)) (m0 : Nat) (x0 x3 : AV) (h : H) : Option (AEnd × H) := J [1, 1, 0, 0] [m0] ⟨[(0, x0), (3, x3)], [(0, 0), (3, 255)], [], h⟩
theorem ref01_Put.f_eq {call : Cl} {n : Nat} {J : Jn (AEnd × H)} (hJ : ref01_Put.F call n J) (x0 : AV) (h : H) : ref01_Put.f J x0 h =
  ref01_Put.l0 J n x0 (.list [] .cap) h := (hJ _ _ _ (by kernel_rfl)).trans (by kernel_rfl)
theorem ref01_Put.l0_eq {call : Cl} {n : Nat} {J : Jn (AEnd × H)} (hJ : ref01_Put.F call n J) (m0 : Nat) (x0 x3 : AV) (h : H) : ref01_Put.l0 J (m0 + 1) x0 x3 h =
  (bin .geq x0 (.int .u64 128)).bind fun v1 =>
  condV v1 (
    (bin .rem x0 (.int .u64 128)).bind fun v2 =>
    (bin .add v2 (.int .u64 128)).bind fun v3 =>
    (cvInt .u8 v3).bind fun v4 =>
    (mkRows 1 [.int .u8 0] 1 [(0, v4)]).bind fun v5 =>
    (apSlice 1 1 true true h x3 v5).bind fun v6 =>
    (bin .quo x0 (.int .u64 128)).bind fun v7 =>
    ref01_Put.l0 J m0 v7 v6 h) (
    (cvInt .u8 x0).bind fun v8 =>
    (mkRows 1 [.int .u8 0] 1 [(0, v8)]).bind fun v9 =>
    (apSlice 1 1 true true h x3 v9).bind fun v10 =>
    some (AEnd.ret v10, h)) := (hJ _ _ _ (by kernel_rfl)).trans (by kernel_rfl)
noncomputable def cmp_Less_string.A : FAnn := { nv := 4, mv := [(1, 8), (1, 9)], ld := [], lst := [], obj := [], q := [], raw := [] }
noncomputable def cmp_Less_string.an : Ann := .nil
noncomputable abbrev cmp_Less_string.c : Code := Try.f55.body.getD .skip
noncomputable def cmp_Less_string.J (call : Cl) (n : Nat) : Jn (AEnd × H) := realJ Try.prog cmp_Less_string.A call Try.f55 cmp_Less_string.an cmp_Less_string.c n
abbrev cmp_Less_string.F (call : Cl) (n : Nat) (J : Jn (AEnd × H)) : Prop := JFix Try.prog cmp_Less_string.A call Try.f55 cmp_Less_string.an cmp_Less_string.c n J
def cmp_Less_string.f (J : Jn (AEnd × H)) (x0 x1 : AV) (h : H) : Option (AEnd × H) := J [] [] ⟨[(0, x0), (1, x1)], [], [], h⟩
theorem cmp_Less_string.f_eq {call : Cl} {n : Nat} {J : Jn (AEnd × H)} (hJ : cmp_Less_string.F call n J) (x0 x1 : AV) (h : H) : cmp_Less_string.f J x0 x1 h =
  (call n_cmp_isNaN_string [AV.canon x0] h).bind fun p1 => retOr p1.1 (fun r2p => some (AEnd.pan r2p, p1.2)) fun r2 =>
  condV r2 (
    (call n_cmp_isNaN_string [AV.canon x1] p1.2).bind fun p3 => retOr p3.1 (fun r4p => some (AEnd.pan r4p, p3.2)) fun r4 =>
    (unOp .not r4).bind fun v5 =>
    condV v5 (
      some (AEnd.ret (AV.copy (.bool true)), p3.2)) (
      (bin .lss x0 x1).bind fun v6 =>
      some (AEnd.ret (AV.copy v6), p3.2))) (
    (bin .lss x0 x1).bind fun v7 =>
    some (AEnd.ret (AV.copy v7), p1.2)) := (hJ _ _ _ (by kernel_rfl)).trans (by kernel_rfl)
noncomputable def slices_isNaN_string.A : FAnn := { nv := 2, mv := [(1, 1)], ld := [], lst := [], obj := [], q := [], raw := [] }
noncomputable def slices_isNaN_string.an : Ann := .nil
noncomputable abbrev slices_isNaN_string.c : Code := Try.f56.body.getD .skip
noncomputable def slices_isNaN_string.J (call : Cl) (n : Nat) : Jn (AEnd × H) := realJ Try.prog slices_isNaN_string.A call Try.f56 slices_isNaN_string.an slices_isNaN_string.c n
abbrev slices_isNaN_string.F (call : Cl) (n : Nat) (J : Jn (AEnd × H)) : Prop := JFix Try.prog slices_isNaN_string.A call Try.f56 slices_isNaN_string.an slices_isNaN_string.c n J
def slices_isNaN_string.f (J : Jn (AEnd × H)) (x0 : AV) (h : H) : Option (AEnd × H) := J [] [] ⟨[(0, x0)], [], [], h⟩
theorem slices_isNaN_string.f_eq {call : Cl} {n : Nat} {J : Jn (AEnd × H)} (hJ : slices_isNaN_string.F call n J) (x0 : AV) (h : H) : slices_isNaN_string.f J x0 h =
  (bin .neq x0 x0).bind fun v1 =>
  some (AEnd.ret (AV.copy v1), h) := (hJ _ _ _ (by kernel_rfl)).trans (by kernel_rfl)
noncomputable def cur_Reader_number.A : FAnn := { nv := 6, mv := [(3, 0), (4, 0), (4, 4), (5, 0)], ld := [], lst := [], obj := [], q := [74], raw := [] }
noncomputable def cur_Reader_number.an : Ann := .mk none .nil (.mk none .nil (.mk none .nil (.mk (some [(0, 0), (3, 0), (4, 0)]) .nil .nil)))
noncomputable abbrev cur_Reader_number.c : Code := Try.f58.body.getD .skip
noncomputable def cur_Reader_number.J (call : Cl) (n : Nat) : Jn (AEnd × H) := realJ Try.prog cur_Reader_number.A call Try.f58 cur_Reader_number.an cur_Reader_number.c n
abbrev cur_Reader_number.F (call : Cl) (n : Nat) (J : Jn (AEnd × H)) : Prop := JFix Try.prog cur_Reader_number.A call Try.f58 cur_Reader_number.an cur_Reader_number.c n J
def cur_Reader_number.f (J : Jn (AEnd × H)) (x0 : AV) (h : H) : Option (AEnd × H) := J [] [] ⟨[(0, x0)], [], [], h⟩
def cur_Reader_number.j0 (J : Jn (AEnd × H)) (x0 x3 x4 : AV) (h : H) : Option (AEnd × H) := J [1, 1, 1] [] ⟨[(0, x0), (3, x3), (4, x4)], [(0, 0), (3, 0), (4, 0)], [], h⟩
theorem cur_Reader_number.f_eq {call : Cl} {n : Nat} {J : Jn (AEnd × H)} (hJ : cur_Reader_number.F call n J) (x0 : AV) (h : H) : cur_Reader_number.f J x0 h =
  (nilOk x0).bind fun v1 =>
  (fAddr 0 v1).bind fun v2 =>
  (ldCell h v2).bind fun v3 =>
  (nilOk x0).bind fun v4 =>
  (fAddr 1 v4).bind fun v5 =>
  (ldCell h v5).bind fun v6 =>
  (slSlice 1 v3 (some v6) none none).bind fun v7 =>
  (call n_leb_Get [AV.canon v7] h).bind fun p8 => retOr p8.1 (fun _ => none) fun r9 =>
  (exTuple 0 r9).bind fun v10 =>
  (exTuple 1 r9).bind fun v11 =>
  (exTuple 2 r9).bind fun v12 =>
  (bin .neq v12 (.int .i64 0)).bind fun v13 =>
  condV v13 (
    (mkAgg [.int .i64 0] [(0, 1, AV.copy v12)]).bind fun v14 =>
    panOr (.iface t_cur_broken (AV.copy v14)) fun w => some (AEnd.pan w, p8.2)) (
    cur_Reader_number.j0 J  x0 v10 v11 p8.2) := (hJ _ _ _ (by kernel_rfl)).trans (by kernel_rfl)
theorem cur_Reader_number.j0_eq {call : Cl} {n : Nat} {J : Jn (AEnd × H)} (hJ : cur_Reader_number.F call n J) (x0 x3 x4 : AV) (h : H) : cur_Reader_number.j0 J  x0 x3 x4 h =
  (nilOk x0).bind fun v15 =>
  (fAddr 1 v15).bind fun v16 =>
  (ldCell h v16).bind fun v17 =>
  (bin .add v17 x4).bind fun v18 =>
  (nilOk x0).bind fun v19 =>
  (fAddr 1 v19).bind fun v20 =>
  (stN 1 h v20 (AV.copy v18)).bind fun p21 =>
  some (AEnd.ret (AV.copy x3), p21.2) := (hJ _ _ _ (by kernel_rfl)).trans (by kernel_rfl)
noncomputable def cur_ask_string.A : FAnn := { nv := 6, mv := [(5, 0)], ld := [], lst := [], obj := [], q := [], raw := [], df := [(75, { nv := 6, mv := [(1, 0), (3, 2)], ld := [], raw := [] })] }
noncomputable def cur_ask_string.an : Ann := .mk none .nil (.mk none (.mk none .nil (.mk (some [(1, 0), (2, 0), (4, 0), (14, 0)]) .nil .nil)) (.mk (some [(1, 0), (2, 0), (4, 0)]) .nil .nil))
noncomputable abbrev cur_ask_string.c : Code := Try.f59.body.getD .skip
noncomputable abbrev cur_ask_string.dc (call : Cl) (n : Nat) := dcall Try.prog cur_ask_string.A call n
theorem cur_ask_string.d75_eq {call : Cl} {n : Nat} (x0 x1 x2 : AV) (h : H) (v : AV) : cur_ask_string.dc call n n_cur_ask_string__c1 [x0, x1, x2] h v =
  (taTo (.agg [.int .i64 0]) t_cur_broken true v).bind fun v1 =>
  (exTuple 0 v1).bind fun v2 =>
  (exTuple 1 v1).bind fun v3 =>
  let h4 : H := h ++ [.arr [.int .i64 0] false]
  (stN 1 h4 (.ptr h.length 0) (AV.copy v2)).bind fun p5 =>
  condV v3 (
    (ldCell p5.2 x2).bind fun v6 =>
    (ldCell p5.2 x2).bind fun v7 =>
    (ldCell p5.2 x0).bind fun v8 =>
    (fAddr 0 (.ptr h.length 0)).bind fun v9 =>
    (ldCell p5.2 v9).bind fun v10 =>
    (stN 1 p5.2 x1 (.str [])).bind fun p11 =>
    whenB (eqO (ldCell p11.2 v9) v10) (
      (nilOk v6).bind fun v12 =>
      (fAddr 1 v12).bind fun v13 =>
      (stN 1 p11.2 v13 (AV.copy v8)).bind fun p14 =>
      whenB (eqO (ldCell p14.2 v9) v10) (
        (nilOk v7).bind fun v15 =>
        (fAddr 2 v15).bind fun v16 =>
        (stN 1 p14.2 v16 (AV.copy v10)).bind fun p17 =>
        some p17.2))) (
    some p5.2) := (dcall_eq (P := Try.prog) (A := cur_ask_string.A) (f := 75) (d := { nv := 6, mv := [(1, 0), (3, 2)], ld := [], raw := [] }) (c := Try.f75.body.getD .skip) (args := [x0, x1, x2]) (by kernel_rfl) Try.func75 (by kernel_rfl) (by kernel_rfl)).trans (by kernel_rfl)
noncomputable def cur_ask_string.J (call : Cl) (n : Nat) : Jn (AEnd × H) := realJ Try.prog cur_ask_string.A call Try.f59 cur_ask_string.an cur_ask_string.c n
abbrev cur_ask_string.F (call : Cl) (n : Nat) (J : Jn (AEnd × H)) : Prop := JFix Try.prog cur_ask_string.A call Try.f59 cur_ask_string.an cur_ask_string.c n J
def cur_ask_string.f (J : Jn (AEnd × H)) (x0 x1 : AV) (h : H) : Option (AEnd × H) := J [] [] ⟨[(0, x0), (1, x1)], [], [], h⟩
def cur_ask_string.j1 (J : Jn (AEnd × H)) (x1 x2 x4 x14 : AV) (h : H) : Option (AEnd × H) := J [1, 0, 1] [] ⟨[(1, x1), (2, x2), (4, x4), (14, x14)], [(1, 0), (2, 0), (4, 0), (14, 0)], [], h⟩
def cur_ask_string.j0 (J : Jn (AEnd × H)) (x1 x2 x4 : AV) (h : H) : Option (AEnd × H) := J [1, 1] [] ⟨[(1, x1), (2, x2), (4, x4)], [(1, 0), (2, 0), (4, 0)], [], h⟩
theorem cur_ask_string.f_eq {call : Cl} {n : Nat} {J : Jn (AEnd × H)} (hJ : cur_ask_string.F call n J) (x0 x1 : AV) (h : H) : cur_ask_string.f J x0 x1 h =
  (bx h (AV.copy x0)).bind fun p1 =>
  let h2 : H := p1.2 ++ [.arr [.str []] false]
  (ldCell h2 p1.1).bind fun v3 =>
  (eqv false (aeq Try.prog 20 48 v3 .nilPtr)).bind fun v4 =>
  condV v4 (
    cur_ask_string.j1 J  x1 p1.1 (.ptr p1.2.length 0) (.bool true) h2) (
    (ldCell h2 p1.1).bind fun v5 =>
    (nilOk v5).bind fun v6 =>
    (fAddr 2 v6).bind fun v7 =>
    (ldCell h2 v7).bind fun v8 =>
    (bin .neq v8 (.int .i64 0)).bind fun v9 =>
    cur_ask_string.j1 J  x1 p1.1 (.ptr p1.2.length 0) v9 h2) := (hJ _ _ _ (by kernel_rfl)).trans (by kernel_rfl)
theorem cur_ask_string.j1_eq {call : Cl} {n : Nat} {J : Jn (AEnd × H)} (hJ : cur_ask_string.F call n J) (x1 x2 x4 x14 : AV) (h : H) : cur_ask_string.j1 J  x1 x2 x4 x14 h =
  condV x14 (
    (ldCell h x4).bind fun v10 =>
    (stN 1 h x4 (AV.copy v10)).bind fun p11 =>
    (resN [(ldCell p11.2 x4).map AV.copy]).map fun v => (AEnd.ret v, p11.2)) (
    cur_ask_string.j0 J  x1 x2 x4 h) := (hJ _ _ _ (by kernel_rfl)).trans (by kernel_rfl)
theorem cur_ask_string.j0_eq {call : Cl} {n : Nat} {J : Jn (AEnd × H)} (hJ : cur_ask_string.F call n J) (x1 x2 x4 : AV) (h : H) : cur_ask_string.j0 J  x1 x2 x4 h =
  (ldCell h x2).bind fun v12 =>
  (nilOk v12).bind fun v13 =>
  (fAddr 1 v13).bind fun v14 =>
  (ldCell h v14).bind fun v15 =>
  let h16 : H := h ++ [.arr [.int .i64 0] false]
  (stN 1 h16 (.ptr h.length 0) (AV.copy v15)).bind fun p17 =>
  (ldCell p17.2 x2).bind fun v18 =>
  (callVal call p17.2 x1 [AV.canon v18]).bind fun p19 => retOr p19.1 (fun r20p => (cur_ask_string.dc call n n_cur_ask_string__c1 [AV.copy (.ptr h.length 0), AV.copy x4, AV.copy x2] p19.2 r20p).bind fun h23 =>
  (resN [(ldCell h23 x4).map AV.copy]).map fun v => (AEnd.ret v, h23)) fun r20 =>
  (stN 1 p19.2 x4 r20).bind fun p21 =>
  (cur_ask_string.dc call n n_cur_ask_string__c1 [AV.copy (.ptr h.length 0), AV.copy x4, AV.copy x2] p21.2 .nilIface).bind fun h22 =>
  (resN [(ldCell h22 x4).map AV.copy]).map fun v => (AEnd.ret v, h22) := (hJ _ _ _ (by kernel_rfl)).trans (by kernel_rfl)
noncomputable def cur_Reader_Text_c1.A : FAnn := { nv := 3, mv := [(1, 1)], ld := [], lst := [], obj := [], q := [], raw := [] }
noncomputable def cur_Reader_Text_c1.an : Ann := .nil
noncomputable abbrev cur_Reader_Text_c1.c : Code := Try.f60.body.getD .skip
noncomputable def cur_Reader_Text_c1.J (call : Cl) (n : Nat) : Jn (AEnd × H) := realJ Try.prog cur_Reader_Text_c1.A call Try.f60 cur_Reader_Text_c1.an cur_Reader_Text_c1.c n
abbrev cur_Reader_Text_c1.F (call : Cl) (n : Nat) (J : Jn (AEnd × H)) : Prop := JFix Try.prog cur_Reader_Text_c1.A call Try.f60 cur_Reader_Text_c1.an cur_Reader_Text_c1.c n J
def cur_Reader_Text_c1.f (J : Jn (AEnd × H)) (x0 x1 : AV) (h : H) : Option (AEnd × H) := J [] [] ⟨[(0, x0), (1, x1)], [], [], h⟩
theorem cur_Reader_Text_c1.f_eq {call : Cl} {n : Nat} {J : Jn (AEnd × H)} (hJ : cur_Reader_Text_c1.F call n J) (x0 x1 : AV) (h : H) : cur_Reader_Text_c1.f J x0 x1 h =
  (ldCell h x1).bind fun v1 =>
  (call n_cur_Reader_upto [AV.canon x0, AV.canon v1] h).bind fun p2 => retOr p2.1 (fun r3p => some (AEnd.pan r3p, p2.2)) fun r3 =>
  (call n_cur_Reader_take [AV.canon x0, AV.canon r3] p2.2).bind fun p4 => retOr p4.1 (fun r5p => some (AEnd.pan r5p, p4.2)) fun r5 =>
  (bytesStr p4.2 r5).bind fun v6 =>
  some (AEnd.ret v6, p4.2) := (hJ _ _ _ (by kernel_rfl)).trans (by kernel_rfl)
noncomputable def cur_Reader_take.A : FAnn := { nv := 4, mv := [(4, 8), (4, 10)], ld := [], lst := [], obj := [], q := [], raw := [] }
noncomputable def cur_Reader_take.an : Ann := .mk none .nil (.mk none .nil (.mk (some [(0, 0), (1, 0)]) .nil .nil))
noncomputable abbrev cur_Reader_take.c : Code := Try.f61.body.getD .skip
noncomputable def cur_Reader_take.J (call : Cl) (n : Nat) : Jn (AEnd × H) := realJ Try.prog cur_Reader_take.A call Try.f61 cur_Reader_take.an cur_Reader_take.c n
abbrev cur_Reader_take.F (call : Cl) (n : Nat) (J : Jn (AEnd × H)) : Prop := JFix Try.prog cur_Reader_take.A call Try.f61 cur_Reader_take.an cur_Reader_take.c n J
def cur_Reader_take.f (J : Jn (AEnd × H)) (x0 x1 : AV) (h : H) : Option (AEnd × H) := J [] [] ⟨[(0, x0), (1, x1)], [], [], h⟩
def cur_Reader_take.j0 (J : Jn (AEnd × H)) (x0 x1 : AV) (h : H) : Option (AEnd × H) := J [1, 1] [] ⟨[(0, x0), (1, x1)], [(0, 0), (1, 0)], [], h⟩
theorem cur_Reader_take.f_eq {call : Cl} {n : Nat} {J : Jn (AEnd × H)} (hJ : cur_Reader_take.F call n J) (x0 x1 : AV) (h : H) : cur_Reader_take.f J x0 x1 h =
  (nilOk x0).bind fun v1 =>
  (fAddr 0 v1).bind fun v2 =>
  (ldCell h v2).bind fun v3 =>
  (lnSl v3).bind fun v4 =>
  (nilOk x0).bind fun v5 =>
  (fAddr 1 v5).bind fun v6 =>
  (ldCell h v6).bind fun v7 =>
  (bin .sub v4 v7).bind fun v8 =>
  (bin .gtr x1 v8).bind fun v9 =>
  condV v9 (
    (mkAgg [.int .i64 0] [(0, 1, AV.copy (.int .i64 10))]).bind fun v10 =>
    panOr (.iface t_cur_broken (AV.copy v10)) fun w => some (AEnd.pan w, h)) (
    cur_Reader_take.j0 J  x0 x1 h) := (hJ _ _ _ (by kernel_rfl)).trans (by kernel_rfl)
theorem cur_Reader_take.j0_eq {call : Cl} {n : Nat} {J : Jn (AEnd × H)} (hJ : cur_Reader_take.F call n J) (x0 x1 : AV) (h : H) : cur_Reader_take.j0 J  x0 x1 h =
  (nilOk x0).bind fun v11 =>
  (fAddr 1 v11).bind fun v12 =>
  (ldCell h v12).bind fun v13 =>
  (bin .add v13 x1).bind fun v14 =>
  (nilOk x0).bind fun v15 =>
  (fAddr 1 v15).bind fun v16 =>
  (stN 1 h v16 (AV.copy v14)).bind fun p17 =>
  (nilOk x0).bind fun v18 =>
  (fAddr 0 v18).bind fun v19 =>
  (ldCell p17.2 v19).bind fun v20 =>
  (nilOk x0).bind fun v21 =>
  (fAddr 1 v21).bind fun v22 =>
  (ldCell p17.2 v22).bind fun v23 =>
  (bin .sub v23 x1).bind fun v24 =>
  (nilOk x0).bind fun v25 =>
  (fAddr 1 v25).bind fun v26 =>
  (ldCell p17.2 v26).bind fun v27 =>
  (slSlice 1 v20 (some v24) (some v27) none).bind fun v28 =>
  some (AEnd.ret (AV.copy v28), p17.2) := (hJ _ _ _ (by kernel_rfl)).trans (by kernel_rfl)
noncomputable def cmp_isNaN_string.A : FAnn := { nv := 2, mv := [(1, 1)], ld := [], lst := [], obj := [], q := [], raw := [] }
noncomputable def cmp_isNaN_string.an : Ann := .nil
noncomputable abbrev cmp_isNaN_string.c : Code := Try.f73.body.getD .skip
noncomputable def cmp_isNaN_string.J (call : Cl) (n : Nat) : Jn (AEnd × H) := realJ Try.prog cmp_isNaN_string.A call Try.f73 cmp_isNaN_string.an cmp_isNaN_string.c n
abbrev cmp_isNaN_string.F (call : Cl) (n : Nat) (J : Jn (AEnd × H)) : Prop := JFix Try.prog cmp_isNaN_string.A call Try.f73 cmp_isNaN_string.an cmp_isNaN_string.c n J
def cmp_isNaN_string.f (J : Jn (AEnd × H)) (x0 : AV) (h : H) : Option (AEnd × H) := J [] [] ⟨[(0, x0)], [], [], h⟩
theorem cmp_isNaN_string.f_eq {call : Cl} {n : Nat} {J : Jn (AEnd × H)} (hJ : cmp_isNaN_string.F call n J) (x0 : AV) (h : H) : cmp_isNaN_string.f J x0 h =
  (bin .neq x0 x0).bind fun v1 =>
  some (AEnd.ret (AV.copy v1), h) := (hJ _ _ _ (by kernel_rfl)).trans (by kernel_rfl)
noncomputable def leb_Get.A : FAnn := { nv := 8, mv := [(2, 0), (7, 0), (8, 0), (9, 0), (9, 1)], ld := [], lst := [], obj := [], q := [], raw := [] }
noncomputable def leb_Get.an : Ann := .mk none .nil (.mk none .nil (.mk none (.mk none .nil (.mk none (.mk none (.mk (some [(5, 0), (8, 0), (9, 0), (10, 0)]) .nil (.mk none .nil (.mk none (.mk none (.mk none .nil (.mk none (.mk none .nil (.mk (some [(5, 0), (6, 0), (7, 0), (8, 0), (9, 0), (10, 0), (28, 0)]) .nil .nil)) (.mk (some [(5, 0), (6, 0), (7, 0), (8, 0), (9, 0), (10, 0)]) .nil .nil))) .nil) .nil))) .nil) .nil)) .nil))
noncomputable abbrev leb_Get.c : Code := Try.f74.body.getD .skip
noncomputable def leb_Get.J (call : Cl) (n : Nat) : Jn (AEnd × H) := realJ Try.prog leb_Get.A call Try.f74 leb_Get.an leb_Get.c n
abbrev leb_Get.F (call : Cl) (n : Nat) (J : Jn (AEnd × H)) : Prop := JFix Try.prog leb_Get.A call Try.f74 leb_Get.an leb_Get.c n J
def leb_Get.f (J : Jn (AEnd × H)) (x0 : AV) (h : H) : Option (AEnd × H) := J [] [] ⟨[(0, x0)], [], [], h⟩
def leb_Get.l0 (J : Jn (AEnd × H)) (m0 : Nat) (x5 x8 x9 x10 : AV) (h : H) : Option (AEnd × H) := J [1, 1, 0, 1, 0] [m0] ⟨[(5, x5), (8, x8), (9, x9), (10, x10)], [(5, 0), (8, 0), (9, 0), (10, 0)], [], h⟩
def leb_Get.j1 (J : Jn (AEnd × H)) (m0 : Nat) (x5 x6 x7 x8 x9 x10 x28 : AV) (h : H) : Option (AEnd × H) := J [1, 1, 0, 1, 0, 0, 1, 1, 0, 0, 1, 0, 1] [m0] ⟨[(5, x5), (6, x6), (7, x7), (8, x8), (9, x9), (10, x10), (28, x28)], [(5, 0), (6, 0), (7, 0), (8, 0), (9, 0), (10, 0), (28, 0)], [], h⟩
def leb_Get.j0 (J : Jn (AEnd × H)) (m0 : Nat) (x5 x6 x7 x8 x9 x10 : AV) (h : H) : Option (AEnd × H) := J [1, 1, 0, 1, 0, 0, 1, 1, 0, 0, 1, 1] [m0] ⟨[(5, x5), (6, x6), (7, x7), (8, x8), (9, x9), (10, x10)], [(5, 0), (6, 0), (7, 0), (8, 0), (9, 0), (10, 0)], [], h⟩
theorem leb_Get.f_eq {call : Cl} {n : Nat} {J : Jn (AEnd × H)} (hJ : leb_Get.F call n J) (x0 : AV) (h : H) : leb_Get.f J x0 h =
  (lnSl x0).bind fun v1 =>
  leb_Get.l0 J n (.int .u64 0) x0 v1 (.int .i64 0) h := (hJ _ _ _ (by kernel_rfl)).trans (by kernel_rfl)
theorem leb_Get.l0_eq {call : Cl} {n : Nat} {J : Jn (AEnd × H)} (hJ : leb_Get.F call n J) (m0 : Nat) (x5 x8 x9 x10 : AV) (h : H) : leb_Get.l0 J (m0 + 1) x5 x8 x9 x10 h =
  (bin .lss x10 x9).bind fun v2 =>
  condV v2 (
    (ixSlice 1 x8 x10).bind fun v3 =>
    (ldCell h v3).bind fun v4 =>
    (bin .eql x10 (.int .i64 9)).bind fun v5 =>
    condV v5 (
      (bin .gtr v4 (.int .u8 1)).bind fun v6 =>
      condV v6 (
        leb_Get.j1 J m0 x5 x10 v4 x8 x9 x10 (.bool true) h) (
        (bin .gtr x10 (.int .i64 0)).bind fun v7 =>
        condV v7 (
          (bin .eql v4 (.int .u8 0)).bind fun v8 =>
          leb_Get.j1 J m0 x5 x10 v4 x8 x9 x10 v8 h) (
          leb_Get.j1 J m0 x5 x10 v4 x8 x9 x10 (.bool false) h))) (
      (bin .gtr x10 (.int .i64 0)).bind fun v9 =>
      condV v9 (
        (bin .eql v4 (.int .u8 0)).bind fun v10 =>
        leb_Get.j1 J m0 x5 x10 v4 x8 x9 x10 v10 h) (
        leb_Get.j1 J m0 x5 x10 v4 x8 x9 x10 (.bool false) h))) (
    some (AEnd.ret (.tuple [(.int .u64 0), (.int .i64 0), (.int .i64 10)]), h)) := (hJ _ _ _ (by kernel_rfl)).trans (by kernel_rfl)
theorem leb_Get.j1_eq {call : Cl} {n : Nat} {J : Jn (AEnd × H)} (hJ : leb_Get.F call n J) (m0 : Nat) (x5 x6 x7 x8 x9 x10 x28 : AV) (h : H) : leb_Get.j1 J m0 x5 x6 x7 x8 x9 x10 x28 h =
  condV x28 (
    some (AEnd.ret (.tuple [(.int .u64 0), (.int .i64 0), (.int .i64 11)]), h)) (
    leb_Get.j0 J m0 x5 x6 x7 x8 x9 x10 h) := (hJ _ _ _ (by kernel_rfl)).trans (by kernel_rfl)
theorem leb_Get.j0_eq {call : Cl} {n : Nat} {J : Jn (AEnd × H)} (hJ : leb_Get.F call n J) (m0 : Nat) (x5 x6 x7 x8 x9 x10 : AV) (h : H) : leb_Get.j0 J m0 x5 x6 x7 x8 x9 x10 h =
  (bin .andNot x7 (.int .u8 128)).bind fun v11 =>
  (cvInt .u64 v11).bind fun v12 =>
  (bin .mul (.int .i64 7) x6).bind fun v13 =>
  (bin .shl v12 v13).bind fun v14 =>
  (bin .or x5 v14).bind fun v15 =>
  (bin .lss x7 (.int .u8 128)).bind fun v16 =>
  condV v16 (
    (bin .add x6 (.int .i64 1)).bind fun v17 =>
    some (AEnd.ret (.tuple [(AV.copy v15), (AV.copy v17), (.int .i64 0)]), h)) (
    (bin .add x10 (.int .i64 1)).bind fun v18 =>
    leb_Get.l0 J m0 v15 x8 x9 v18 h) := (hJ _ _ _ (by kernel_rfl)).trans (by kernel_rfl)
end Go.Proofs.Ytficgmeakeiacaa
