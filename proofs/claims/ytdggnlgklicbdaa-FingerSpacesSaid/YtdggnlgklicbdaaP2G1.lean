import Derived.Test.YtdggnlgklicbdaaVa5
import Derived.Test.YtdggnlgklicbdaaProg
import Derived.Test.YtdggnlgklicbdaaP2N
set_option linter.all false
open Go Go.Ve Go.Proofs
namespace Go.Proofs.Ytdggnlgklicbdaa
set_option maxRecDepth 100000
noncomputable def law20_FingerOf.A : FAnn := { nv := 9, mv := [(6, 0), (7, 0), (8, 6), (8, 14), (8, 21)], ld := [], lst := [], obj := [], q := [10, 12, 13, 14, 15, 16, 17, 18], raw := [] }
noncomputable def law20_FingerOf.an : Ann := .mk none .nil (.mk none (.mk none .nil (.mk (some [(0, 0), (2, 0), (4, 0), (15, 0)]) .nil .nil)) (.mk (some [(0, 0), (2, 0), (4, 0)]) .nil (.mk none (.mk none .nil (.mk none (.mk none (.mk (some [(0, 0), (2, 0), (4, 0), (7, 255), (8, 0)]) .nil .nil) .nil) .nil)) .nil)))
noncomputable abbrev law20_FingerOf.c : Code := Try.f3.body.getD .skip
noncomputable def law20_FingerOf.J (call : Cl) (n : Nat) : Jn (AEnd × H) := realJ Try.prog law20_FingerOf.A call Try.f3 law20_FingerOf.an law20_FingerOf.c n
abbrev law20_FingerOf.F (call : Cl) (n : Nat) (J : Jn (AEnd × H)) : Prop := JFix Try.prog law20_FingerOf.A call Try.f3 law20_FingerOf.an law20_FingerOf.c n J
def law20_FingerOf.f (J : Jn (AEnd × H)) (x0 x1 x2 : AV) (h : H) : Option (AEnd × H) := J [] [] ⟨[(0, x0), (1, x1), (2, x2)], [], [], h⟩
def law20_FingerOf.j1 (J : Jn (AEnd × H)) (x0 x2 x4 x15 : AV) (h : H) : Option (AEnd × H) := J [1, 0, 1] [] ⟨[(0, x0), (2, x2), (4, x4), (15, x15)], [(0, 0), (2, 0), (4, 0), (15, 0)], [], h⟩
def law20_FingerOf.j0 (J : Jn (AEnd × H)) (x0 x2 x4 : AV) (h : H) : Option (AEnd × H) := J [1, 1] [] ⟨[(0, x0), (2, x2), (4, x4)], [(0, 0), (2, 0), (4, 0)], [], h⟩
def law20_FingerOf.l0 (J : Jn (AEnd × H)) (m0 : Nat) (x0 x2 x4 x7 x8 : AV) (h : H) : Option (AEnd × H) := J [1, 1, 1, 0, 1, 0] [m0] ⟨[(0, x0), (2, x2), (4, x4), (7, x7), (8, x8)], [(0, 0), (2, 0), (4, 0), (7, 255), (8, 0)], [], h⟩
theorem law20_FingerOf.f_eq {call : Cl} {n : Nat} {J : Jn (AEnd × H)} (hJ : law20_FingerOf.F call n J) (x0 x1 x2 : AV) (h : H) : law20_FingerOf.f J x0 x1 x2 h =
  (bx h (AV.copy x1)).bind fun p1 =>
  (call n_warrantorref17_Large [AV.canon x0] p1.2).bind fun p2 => retOr p2.1 (fun r3p => some (AEnd.pan r3p, p2.2)) fun r3 =>
  condV r3 (
    law20_FingerOf.j1 J  x0 x2 p1.1 (.bool true) p2.2) (
    (ldAgg 6 p2.2 p1.1).bind fun v4 =>
    (mkRows 6 [.int .i64 0, .int .i64 0, .str [], .str [], .int .i64 0, .str []] 1 [(0, v4)]).bind fun v5 =>
    (call n_warrantorref17_Large [AV.canon v5] p2.2).bind fun p6 => retOr p6.1 (fun r7p => some (AEnd.pan r7p, p6.2)) fun r7 =>
    law20_FingerOf.j1 J  x0 x2 p1.1 r7 p6.2) := (hJ _ _ _ (by kernel_rfl)).trans (by kernel_rfl)
theorem law20_FingerOf.j1_eq {call : Cl} {n : Nat} {J : Jn (AEnd × H)} (hJ : law20_FingerOf.F call n J) (x0 x2 x4 x15 : AV) (h : H) : law20_FingerOf.j1 J  x0 x2 x4 x15 h =
  condV x15 (
    (call n_warrantorlaw20_lives [] h).bind fun p8 => retOr p8.1 (fun r9p => some (AEnd.pan r9p, p8.2)) fun r9 =>
    some (AEnd.ret r9, p8.2)) (
    law20_FingerOf.j0 J  x0 x2 x4 h) := (hJ _ _ _ (by kernel_rfl)).trans (by kernel_rfl)
theorem law20_FingerOf.j0_eq {call : Cl} {n : Nat} {J : Jn (AEnd × H)} (hJ : law20_FingerOf.F call n J) (x0 x2 x4 : AV) (h : H) : law20_FingerOf.j0 J  x0 x2 x4 h =
  law20_FingerOf.l0 J n x0 x2 x4 (.list [] .cap) (.int .i64 0) h := (hJ _ _ _ (by kernel_rfl)).trans (by kernel_rfl)
theorem law20_FingerOf.l0_eq {call : Cl} {n : Nat} {J : Jn (AEnd × H)} (hJ : law20_FingerOf.F call n J) (m0 : Nat) (x0 x2 x4 x7 x8 : AV) (h : H) : law20_FingerOf.l0 J (m0 + 1) x0 x2 x4 x7 x8 h =
  (lnSl x0).bind fun v10 =>
  (bin .lss x8 v10).bind fun v11 =>
  condV v11 (
    (call n_warrantorref20_Rank [AV.canon x0, AV.canon x8] h).bind fun p12 => retOr p12.1 (fun r13p => some (AEnd.pan r13p, p12.2)) fun r13 =>
    (mkRows 1 [.int .i64 0] 1 [(0, r13)]).bind fun v14 =>
    (apSlice 1 8 false true p12.2 x7 v14).bind fun v15 =>
    (bin .add x8 (.int .i64 1)).bind fun v16 =>
    law20_FingerOf.l0 J m0 x0 x2 x4 v15 v16 p12.2) (
    (call n_warrantorlaw20_lives [] h).bind fun p17 => retOr p17.1 (fun _ => none) fun r18 =>
    condV r18 (
      (ldAgg 6 p17.2 x4).bind fun v19 =>
      (call n_finger_One [AV.canon v19, AV.canon x2] p17.2).bind fun p20 => retOr p20.1 (fun _ => none) fun r21 =>
      (ldAgg 6 p20.2 x4).bind fun v22 =>
      (call n_warrantorref20_One [AV.canon v22, AV.canon x2] p20.2).bind fun p23 => retOr p23.1 (fun _ => none) fun r24 =>
      (bin .eql r21 r24).bind fun v25 =>
      condV v25 (
        (call n_finger_Ranks [AV.canon x0] p23.2).bind fun p26 => retOr p26.1 (fun _ => none) fun r27 =>
        (mkAgg [.list [] .cap, .list [] .cap] [(0, 1, AV.copy r27)]).bind fun v28 =>
        (mkAgg [.list [] .cap, .list [] .cap] [(0, 1, AV.copy x7)]).bind fun v29 =>
        (call n_warrantorref10_Same [AV.canon v28, AV.canon v29] p26.2).bind fun p30 => retOr p30.1 (fun _ => none) fun r31 =>
        condV r31 (
          (call n_finger_Of [AV.canon x0] p30.2).bind fun p32 => retOr p32.1 (fun _ => none) fun r33 =>
          (call n_warrantorref20_Of [AV.canon x0] p32.2).bind fun p34 => retOr p34.1 (fun _ => none) fun r35 =>
          (call n_warrantorref20_Same [AV.canon r33, AV.canon r35] p34.2).bind fun p36 => retOr p36.1 (fun _ => none) fun r37 =>
          some (AEnd.ret (AV.copy r37), p36.2)) (
          some (AEnd.ret (AV.copy (.bool false)), p30.2))) (
        some (AEnd.ret (AV.copy (.bool false)), p23.2))) (
      some (AEnd.ret (AV.copy (.bool false)), p17.2))) := (hJ _ _ _ (by kernel_rfl)).trans (by kernel_rfl)
noncomputable def law20_FingerMoves.A : FAnn := { nv := 12, mv := [(6, 0), (14, 0), (15, 2), (15, 4)], ld := [], lst := [], obj := [], q := [], raw := [] }
noncomputable def law20_FingerMoves.an : Ann := .mk none .nil (.mk none (.mk none .nil (.mk (some [(0, 0), (1, 0), (2, 0), (3, 0), (29, 0)]) .nil .nil)) (.mk (some [(0, 0), (1, 0), (2, 0), (3, 0)]) .nil (.mk none (.mk none .nil (.mk none (.mk none (.mk (some [(0, 0), (1, 0), (2, 0), (3, 0), (9, 255), (10, 0)]) .nil (.mk none (.mk none (.mk none .nil (.mk none (.mk none .nil (.mk (some [(0, 0), (1, 0), (2, 0), (3, 0), (9, 255), (10, 0), (11, 0), (48, 0)]) .nil .nil)) (.mk (some [(0, 0), (1, 0), (2, 0), (3, 0), (9, 255), (10, 0), (11, 0)]) .nil (.mk none .nil (.mk (some [(0, 0), (1, 0), (2, 0), (3, 0), (9, 255), (10, 0), (11, 0)]) .nil .nil))))) .nil) .nil)) .nil) .nil)) .nil)))
noncomputable abbrev law20_FingerMoves.c : Code := Try.f4.body.getD .skip
noncomputable def law20_FingerMoves.J (call : Cl) (n : Nat) : Jn (AEnd × H) := realJ Try.prog law20_FingerMoves.A call Try.f4 law20_FingerMoves.an law20_FingerMoves.c n
abbrev law20_FingerMoves.F (call : Cl) (n : Nat) (J : Jn (AEnd × H)) : Prop := JFix Try.prog law20_FingerMoves.A call Try.f4 law20_FingerMoves.an law20_FingerMoves.c n J
def law20_FingerMoves.f (J : Jn (AEnd × H)) (x0 x1 x2 x3 : AV) (h : H) : Option (AEnd × H) := J [] [] ⟨[(0, x0), (1, x1), (2, x2), (3, x3)], [], [], h⟩
def law20_FingerMoves.j1 (J : Jn (AEnd × H)) (x0 x1 x2 x3 x29 : AV) (h : H) : Option (AEnd × H) := J [1, 0, 1] [] ⟨[(0, x0), (1, x1), (2, x2), (3, x3), (29, x29)], [(0, 0), (1, 0), (2, 0), (3, 0), (29, 0)], [], h⟩
def law20_FingerMoves.j0 (J : Jn (AEnd × H)) (x0 x1 x2 x3 : AV) (h : H) : Option (AEnd × H) := J [1, 1] [] ⟨[(0, x0), (1, x1), (2, x2), (3, x3)], [(0, 0), (1, 0), (2, 0), (3, 0)], [], h⟩
def law20_FingerMoves.l0 (J : Jn (AEnd × H)) (m0 : Nat) (x0 x1 x2 x3 x9 x10 : AV) (h : H) : Option (AEnd × H) := J [1, 1, 1, 0, 1, 0] [m0] ⟨[(0, x0), (1, x1), (2, x2), (3, x3), (9, x9), (10, x10)], [(0, 0), (1, 0), (2, 0), (3, 0), (9, 255), (10, 0)], [], h⟩
def law20_FingerMoves.j3 (J : Jn (AEnd × H)) (m0 : Nat) (x0 x1 x2 x3 x9 x10 x11 x48 : AV) (h : H) : Option (AEnd × H) := J [1, 1, 1, 0, 1, 0, 0, 1, 0, 0, 1, 0, 1] [m0] ⟨[(0, x0), (1, x1), (2, x2), (3, x3), (9, x9), (10, x10), (11, x11), (48, x48)], [(0, 0), (1, 0), (2, 0), (3, 0), (9, 255), (10, 0), (11, 0), (48, 0)], [], h⟩
def law20_FingerMoves.j2 (J : Jn (AEnd × H)) (m0 : Nat) (x0 x1 x2 x3 x9 x10 x11 : AV) (h : H) : Option (AEnd × H) := J [1, 1, 1, 0, 1, 0, 0, 1, 0, 0, 1, 1] [m0] ⟨[(0, x0), (1, x1), (2, x2), (3, x3), (9, x9), (10, x10), (11, x11)], [(0, 0), (1, 0), (2, 0), (3, 0), (9, 255), (10, 0), (11, 0)], [], h⟩
def law20_FingerMoves.j4 (J : Jn (AEnd × H)) (m0 : Nat) (x0 x1 x2 x3 x9 x10 x11 : AV) (h : H) : Option (AEnd × H) := J [1, 1, 1, 0, 1, 0, 0, 1, 0, 0, 1, 1, 1, 1] [m0] ⟨[(0, x0), (1, x1), (2, x2), (3, x3), (9, x9), (10, x10), (11, x11)], [(0, 0), (1, 0), (2, 0), (3, 0), (9, 255), (10, 0), (11, 0)], [], h⟩
theorem law20_FingerMoves.f_eq {call : Cl} {n : Nat} {J : Jn (AEnd × H)} (hJ : law20_FingerMoves.F call n J) (x0 x1 x2 x3 : AV) (h : H) : law20_FingerMoves.f J x0 x1 x2 x3 h =
  (call n_warrantorref17_Large [AV.canon x0] h).bind fun p1 => retOr p1.1 (fun r2p => some (AEnd.pan r2p, p1.2)) fun r2 =>
  condV r2 (
    law20_FingerMoves.j1 J  x0 x1 x2 x3 (.bool true) p1.2) (
    (bin .lss x2 (.int .i64 0)).bind fun v3 =>
    condV v3 (
      law20_FingerMoves.j1 J  x0 x1 x2 x3 (.bool true) p1.2) (
      (bin .gtr x2 (.int .i64 1000)).bind fun v4 =>
      condV v4 (
        law20_FingerMoves.j1 J  x0 x1 x2 x3 (.bool true) p1.2) (
        (bin .lss x3 (.int .i64 1)).bind fun v5 =>
        condV v5 (
          law20_FingerMoves.j1 J  x0 x1 x2 x3 (.bool true) p1.2) (
          (bin .gtr x3 (.int .i64 1000)).bind fun v6 =>
          law20_FingerMoves.j1 J  x0 x1 x2 x3 v6 p1.2)))) := (hJ _ _ _ (by kernel_rfl)).trans (by kernel_rfl)
theorem law20_FingerMoves.j1_eq {call : Cl} {n : Nat} {J : Jn (AEnd × H)} (hJ : law20_FingerMoves.F call n J) (x0 x1 x2 x3 x29 : AV) (h : H) : law20_FingerMoves.j1 J  x0 x1 x2 x3 x29 h =
  condV x29 (
    (call n_warrantorlaw20_lives [] h).bind fun p7 => retOr p7.1 (fun r8p => some (AEnd.pan r8p, p7.2)) fun r8 =>
    some (AEnd.ret r8, p7.2)) (
    law20_FingerMoves.j0 J  x0 x1 x2 x3 h) := (hJ _ _ _ (by kernel_rfl)).trans (by kernel_rfl)
theorem law20_FingerMoves.j0_eq {call : Cl} {n : Nat} {J : Jn (AEnd × H)} (hJ : law20_FingerMoves.F call n J) (x0 x1 x2 x3 : AV) (h : H) : law20_FingerMoves.j0 J  x0 x1 x2 x3 h =
  law20_FingerMoves.l0 J n x0 x1 x2 x3 (.list [] .cap) (.int .i64 0) h := (hJ _ _ _ (by kernel_rfl)).trans (by kernel_rfl)
theorem law20_FingerMoves.l0_eq {call : Cl} {n : Nat} {J : Jn (AEnd × H)} (hJ : law20_FingerMoves.F call n J) (m0 : Nat) (x0 x1 x2 x3 x9 x10 : AV) (h : H) : law20_FingerMoves.l0 J (m0 + 1) x0 x1 x2 x3 x9 x10 h =
  (lnSl x0).bind fun v9 =>
  (bin .lss x10 v9).bind fun v10 =>
  condV v10 (
    (ixSlice 6 x0 x10).bind fun v11 =>
    (ldAgg 6 h v11).bind fun v12 =>
    let h13 : H := h ++ [.arr [.int .i64 0, .int .i64 0, .str [], .str [], .int .i64 0, .str []] false]
    (stN 6 h13 (.ptr h.length 0) (AV.copy v12)).bind fun p14 =>
    (fAddr 4 (.ptr h.length 0)).bind fun v15 =>
    (ldCell p14.2 v15).bind fun v16 =>
    (bin .lss v16 (.int .i64 0)).bind fun v17 =>
    condV v17 (
      law20_FingerMoves.j3 J m0 x0 x1 x2 x3 x9 x10 (.ptr h.length 0) (.bool true) p14.2) (
      (fAddr 4 (.ptr h.length 0)).bind fun v18 =>
      (ldCell p14.2 v18).bind fun v19 =>
      (bin .gtr v19 (.int .i64 1073741824)).bind fun v20 =>
      law20_FingerMoves.j3 J m0 x0 x1 x2 x3 x9 x10 (.ptr h.length 0) v20 p14.2)) (
    (call n_warrantorlaw20_lives [] h).bind fun p21 => retOr p21.1 (fun r22p => some (AEnd.pan r22p, p21.2)) fun r22 =>
    condV r22 (
      (call n_finger_Of [AV.canon x9] p21.2).bind fun p23 => retOr p23.1 (fun r24p => some (AEnd.pan r24p, p23.2)) fun r24 =>
      (call n_finger_Of [AV.canon x0] p23.2).bind fun p25 => retOr p25.1 (fun r26p => some (AEnd.pan r26p, p25.2)) fun r26 =>
      (call n_warrantorref20_Same [AV.canon r24, AV.canon r26] p25.2).bind fun p27 => retOr p27.1 (fun r28p => some (AEnd.pan r28p, p27.2)) fun r28 =>
      some (AEnd.ret (AV.copy r28), p27.2)) (
      some (AEnd.ret (AV.copy (.bool false)), p21.2))) := (hJ _ _ _ (by kernel_rfl)).trans (by kernel_rfl)
theorem law20_FingerMoves.j3_eq {call : Cl} {n : Nat} {J : Jn (AEnd × H)} (hJ : law20_FingerMoves.F call n J) (m0 : Nat) (x0 x1 x2 x3 x9 x10 x11 x48 : AV) (h : H) : law20_FingerMoves.j3 J m0 x0 x1 x2 x3 x9 x10 x11 x48 h =
  condV x48 (
    (call n_warrantorlaw20_lives [] h).bind fun p29 => retOr p29.1 (fun r30p => some (AEnd.pan r30p, p29.2)) fun r30 =>
    some (AEnd.ret r30, p29.2)) (
    law20_FingerMoves.j2 J m0 x0 x1 x2 x3 x9 x10 x11 h) := (hJ _ _ _ (by kernel_rfl)).trans (by kernel_rfl)
theorem law20_FingerMoves.j2_eq {call : Cl} {n : Nat} {J : Jn (AEnd × H)} (hJ : law20_FingerMoves.F call n J) (m0 : Nat) (x0 x1 x2 x3 x9 x10 x11 : AV) (h : H) : law20_FingerMoves.j2 J m0 x0 x1 x2 x3 x9 x10 x11 h =
  (fAddr 4 x11).bind fun v31 =>
  (ldCell h v31).bind fun v32 =>
  (bin .mul x3 v32).bind fun v33 =>
  (fAddr 4 x11).bind fun v34 =>
  (stN 1 h v34 (AV.copy v33)).bind fun p35 =>
  (ixSlice 6 x0 x10).bind fun v36 =>
  (fAddr 4 v36).bind fun v37 =>
  (ldCell p35.2 v37).bind fun v38 =>
  (bin .geq v38 x1).bind fun v39 =>
  condV v39 (
    (fAddr 4 x11).bind fun v40 =>
    (ldCell p35.2 v40).bind fun v41 =>
    (bin .add v41 x2).bind fun v42 =>
    (fAddr 4 x11).bind fun v43 =>
    (stN 1 p35.2 v43 (AV.copy v42)).bind fun p44 =>
    law20_FingerMoves.j4 J m0 x0 x1 x2 x3 x9 x10 x11 p44.2) (
    law20_FingerMoves.j4 J m0 x0 x1 x2 x3 x9 x10 x11 p35.2) := (hJ _ _ _ (by kernel_rfl)).trans (by kernel_rfl)
theorem law20_FingerMoves.j4_eq {call : Cl} {n : Nat} {J : Jn (AEnd × H)} (hJ : law20_FingerMoves.F call n J) (m0 : Nat) (x0 x1 x2 x3 x9 x10 x11 : AV) (h : H) : law20_FingerMoves.j4 J m0 x0 x1 x2 x3 x9 x10 x11 h =
  (fAddr 3 x11).bind fun v45 =>
  (ldCell h v45).bind fun v46 =>
  (bin .add (.str [108, 105, 98, 47]) v46).bind fun v47 =>
  (fAddr 3 x11).bind fun v48 =>
  (stN 1 h v48 (AV.copy v47)).bind fun p49 =>
  (ldAgg 6 p49.2 x11).bind fun v50 =>
  (mkRows 6 [.int .i64 0, .int .i64 0, .str [], .str [], .int .i64 0, .str []] 1 [(0, v50)]).bind fun v51 =>
  (apSlice 6 72 false true p49.2 x9 v51).bind fun v52 =>
  (bin .add x10 (.int .i64 1)).bind fun v53 =>
  law20_FingerMoves.l0 J m0 x0 x1 x2 x3 v52 v53 p49.2 := (hJ _ _ _ (by kernel_rfl)).trans (by kernel_rfl)
noncomputable def law20_FingerTurns.A : FAnn := { nv := 16, mv := [(6, 0), (10, 1), (11, 1), (17, 0), (20, 0), (24, 0), (25, 0), (26, 0)], ld := [], lst := [(3, 2)], obj := [], q := [], raw := [] }
noncomputable def law20_FingerTurns.an : Ann := .mk none .nil (.mk none (.mk none .nil (.mk (some [(0, 0), (1, 0), (22, 0)]) .nil .nil)) (.mk (some [(0, 0), (1, 0)]) .nil (.mk none (.mk none .nil (.mk none (.mk none (.mk (some [(0, 0), (1, 0), (5, 255), (6, 0)]) .nil (.mk none (.mk none (.mk none .nil (.mk none .nil (.mk (some [(0, 0), (1, 0), (5, 255), (6, 0), (7, 0), (8, 0), (60, 0)]) .nil .nil))) .nil) .nil)) .nil) .nil)) (.mk none .nil (.mk none (.mk none .nil (.mk (some [(0, 0), (5, 255), (10, 255), (11, 255), (103, 0)]) .nil .nil)) (.mk (some [(0, 0), (5, 255), (10, 255), (11, 255)]) (.mk none .nil (.mk none (.mk none (.mk (some [(0, 0), (5, 255), (10, 255), (11, 255), (12, 0)]) .nil (.mk none (.mk none (.mk none .nil (.mk none (.mk none (.mk (some [(0, 0), (5, 255), (10, 255), (11, 255), (12, 0), (13, 0)]) .nil (.mk none (.mk none (.mk none .nil (.mk none (.mk none .nil (.mk none (.mk none (.mk (some [(0, 0), (5, 255), (10, 255), (11, 255), (12, 0), (13, 0), (14, 0), (15, 0)]) .nil .nil) .nil) .nil)) (.mk none .nil (.mk (some [(0, 0), (5, 255), (10, 255), (11, 255), (12, 0), (13, 0), (159, 0)]) .nil .nil)))) .nil) .nil)) .nil) .nil)) .nil) .nil)) .nil) .nil)) .nil))))))
noncomputable abbrev law20_FingerTurns.c : Code := Try.f5.body.getD .skip
noncomputable def law20_FingerTurns.J (call : Cl) (n : Nat) : Jn (AEnd × H) := realJ Try.prog law20_FingerTurns.A call Try.f5 law20_FingerTurns.an law20_FingerTurns.c n
abbrev law20_FingerTurns.F (call : Cl) (n : Nat) (J : Jn (AEnd × H)) : Prop := JFix Try.prog law20_FingerTurns.A call Try.f5 law20_FingerTurns.an law20_FingerTurns.c n J
def law20_FingerTurns.f (J : Jn (AEnd × H)) (x0 x1 : AV) (h : H) : Option (AEnd × H) := J [] [] ⟨[(0, x0), (1, x1)], [], [], h⟩
def law20_FingerTurns.j1 (J : Jn (AEnd × H)) (x0 x1 x22 : AV) (h : H) : Option (AEnd × H) := J [1, 0, 1] [] ⟨[(0, x0), (1, x1), (22, x22)], [(0, 0), (1, 0), (22, 0)], [], h⟩
def law20_FingerTurns.j0 (J : Jn (AEnd × H)) (x0 x1 : AV) (h : H) : Option (AEnd × H) := J [1, 1] [] ⟨[(0, x0), (1, x1)], [(0, 0), (1, 0)], [], h⟩
def law20_FingerTurns.l0 (J : Jn (AEnd × H)) (m0 : Nat) (x0 x1 x5 x6 : AV) (h : H) : Option (AEnd × H) := J [1, 1, 1, 0, 1, 0] [m0] ⟨[(0, x0), (1, x1), (5, x5), (6, x6)], [(0, 0), (1, 0), (5, 255), (6, 0)], [], h⟩
def law20_FingerTurns.j2 (J : Jn (AEnd × H)) (m0 : Nat) (x0 x1 x5 x6 x7 x8 x60 : AV) (h : H) : Option (AEnd × H) := J [1, 1, 1, 0, 1, 0, 0, 1, 0, 0, 1, 1] [m0] ⟨[(0, x0), (1, x1), (5, x5), (6, x6), (7, x7), (8, x8), (60, x60)], [(0, 0), (1, 0), (5, 255), (6, 0), (7, 0), (8, 0), (60, 0)], [], h⟩
def law20_FingerTurns.j4 (J : Jn (AEnd × H)) (x0 x5 x10 x11 x103 : AV) (h : H) : Option (AEnd × H) := J [1, 1, 1, 1, 1, 0, 1] [] ⟨[(0, x0), (5, x5), (10, x10), (11, x11), (103, x103)], [(0, 0), (5, 255), (10, 255), (11, 255), (103, 0)], [], h⟩
def law20_FingerTurns.j3 (J : Jn (AEnd × H)) (x0 x5 x10 x11 : AV) (h : H) : Option (AEnd × H) := J [1, 1, 1, 1, 1, 1] [] ⟨[(0, x0), (5, x5), (10, x10), (11, x11)], [(0, 0), (5, 255), (10, 255), (11, 255)], [], h⟩
def law20_FingerTurns.l1 (J : Jn (AEnd × H)) (m0 : Nat) (x0 x5 x10 x11 x12 : AV) (h : H) : Option (AEnd × H) := J [1, 1, 1, 1, 1, 1, 0, 1, 0] [m0] ⟨[(0, x0), (5, x5), (10, x10), (11, x11), (12, x12)], [(0, 0), (5, 255), (10, 255), (11, 255), (12, 0)], [], h⟩
def law20_FingerTurns.l2 (J : Jn (AEnd × H)) (m0 m1 : Nat) (x0 x5 x10 x11 x12 x13 : AV) (h : H) : Option (AEnd × H) := J [1, 1, 1, 1, 1, 1, 0, 1, 0, 0, 1, 0, 0, 1, 0] [m0, m1] ⟨[(0, x0), (5, x5), (10, x10), (11, x11), (12, x12), (13, x13)], [(0, 0), (5, 255), (10, 255), (11, 255), (12, 0), (13, 0)], [], h⟩
def law20_FingerTurns.l3 (J : Jn (AEnd × H)) (m0 m1 m2 : Nat) (x0 x5 x10 x11 x12 x13 x14 x15 : AV) (h : H) : Option (AEnd × H) := J [1, 1, 1, 1, 1, 1, 0, 1, 0, 0, 1, 0, 0, 1, 0, 0, 1, 0, 0, 1, 0, 1, 0] [m0, m1, m2] ⟨[(0, x0), (5, x5), (10, x10), (11, x11), (12, x12), (13, x13), (14, x14), (15, x15)], [(0, 0), (5, 255), (10, 255), (11, 255), (12, 0), (13, 0), (14, 0), (15, 0)], [], h⟩
def law20_FingerTurns.j5 (J : Jn (AEnd × H)) (m0 m1 : Nat) (x0 x5 x10 x11 x12 x13 x159 : AV) (h : H) : Option (AEnd × H) := J [1, 1, 1, 1, 1, 1, 0, 1, 0, 0, 1, 0, 0, 1, 0, 0, 1, 0, 0, 1, 1, 1] [m0, m1] ⟨[(0, x0), (5, x5), (10, x10), (11, x11), (12, x12), (13, x13), (159, x159)], [(0, 0), (5, 255), (10, 255), (11, 255), (12, 0), (13, 0), (159, 0)], [], h⟩
theorem law20_FingerTurns.f_eq {call : Cl} {n : Nat} {J : Jn (AEnd × H)} (hJ : law20_FingerTurns.F call n J) (x0 x1 : AV) (h : H) : law20_FingerTurns.f J x0 x1 h =
  (call n_warrantorref17_Large [AV.canon x0] h).bind fun p1 => retOr p1.1 (fun r2p => some (AEnd.pan r2p, p1.2)) fun r2 =>
  condV r2 (
    law20_FingerTurns.j1 J  x0 x1 (.bool true) p1.2) (
    (lnSl x1).bind fun v3 =>
    (bin .gtr v3 (.int .i64 100)).bind fun v4 =>
    law20_FingerTurns.j1 J  x0 x1 v4 p1.2) := (hJ _ _ _ (by kernel_rfl)).trans (by kernel_rfl)
theorem law20_FingerTurns.j1_eq {call : Cl} {n : Nat} {J : Jn (AEnd × H)} (hJ : law20_FingerTurns.F call n J) (x0 x1 x22 : AV) (h : H) : law20_FingerTurns.j1 J  x0 x1 x22 h =
  condV x22 (
    (call n_warrantorlaw20_lives [] h).bind fun p5 => retOr p5.1 (fun r6p => some (AEnd.pan r6p, p5.2)) fun r6 =>
    some (AEnd.ret r6, p5.2)) (
    law20_FingerTurns.j0 J  x0 x1 h) := (hJ _ _ _ (by kernel_rfl)).trans (by kernel_rfl)
theorem law20_FingerTurns.j0_eq {call : Cl} {n : Nat} {J : Jn (AEnd × H)} (hJ : law20_FingerTurns.F call n J) (x0 x1 : AV) (h : H) : law20_FingerTurns.j0 J  x0 x1 h =
  (mkRows 6 [.int .i64 0, .int .i64 0, .str [], .str [], .int .i64 0, .str []] 0 []).bind fun v7 =>
  (apObj 6 72 false h v7 x0).bind fun p8 =>
  law20_FingerTurns.l0 J n x0 x1 p8.1 (.int .i64 0) p8.2 := (hJ _ _ _ (by kernel_rfl)).trans (by kernel_rfl)
theorem law20_FingerTurns.l0_eq {call : Cl} {n : Nat} {J : Jn (AEnd × H)} (hJ : law20_FingerTurns.F call n J) (m0 : Nat) (x0 x1 x5 x6 : AV) (h : H) : law20_FingerTurns.l0 J (m0 + 1) x0 x1 x5 x6 h =
  (bin .add x6 (.int .i64 1)).bind fun v9 =>
  (lnSl x1).bind fun v10 =>
  (bin .lss v9 v10).bind fun v11 =>
  condV v11 (
    (ixSlice 1 x1 x6).bind fun v12 =>
    (ldCell h v12).bind fun v13 =>
    (bin .add x6 (.int .i64 1)).bind fun v14 =>
    (ixSlice 1 x1 v14).bind fun v15 =>
    (ldCell h v15).bind fun v16 =>
    (bin .geq v13 (.int .i64 0)).bind fun v17 =>
    condV v17 (
      (lnSl x5).bind fun v18 =>
      (bin .lss v13 v18).bind fun v19 =>
      condV v19 (
        (bin .geq v16 (.int .i64 0)).bind fun v20 =>
        condV v20 (
          (lnSl x5).bind fun v21 =>
          (bin .lss v16 v21).bind fun v22 =>
          law20_FingerTurns.j2 J m0 x0 x1 x5 x6 v13 v16 v22 h) (
          law20_FingerTurns.j2 J m0 x0 x1 x5 x6 v13 v16 (.bool false) h)) (
        law20_FingerTurns.j2 J m0 x0 x1 x5 x6 v13 v16 (.bool false) h)) (
      law20_FingerTurns.j2 J m0 x0 x1 x5 x6 v13 v16 (.bool false) h)) (
    (call n_finger_Of [AV.canon x0] h).bind fun p23 => retOr p23.1 (fun r24p => some (AEnd.pan r24p, p23.2)) fun r24 =>
    (call n_finger_Of [AV.canon x5] p23.2).bind fun p25 => retOr p25.1 (fun r26p => some (AEnd.pan r26p, p25.2)) fun r26 =>
    (call n_warrantorlaw20_lives [] p25.2).bind fun p27 => retOr p27.1 (fun r28p => some (AEnd.pan r28p, p27.2)) fun r28 =>
    (unOp .not r28).bind fun v29 =>
    condV v29 (
      law20_FingerTurns.j4 J  x0 x5 r24 r26 (.bool true) p27.2) (
      (lnSl r24).bind fun v30 =>
      (lnSl x0).bind fun v31 =>
      (bin .neq v30 v31).bind fun v32 =>
      condV v32 (
        law20_FingerTurns.j4 J  x0 x5 r24 r26 (.bool true) p27.2) (
        (lnSl r26).bind fun v33 =>
        (lnSl x5).bind fun v34 =>
        (bin .neq v33 v34).bind fun v35 =>
        condV v35 (
          law20_FingerTurns.j4 J  x0 x5 r24 r26 (.bool true) p27.2) (
          (call n_warrantorref20_Sorted [AV.canon r24] p27.2).bind fun p36 => retOr p36.1 (fun r37p => some (AEnd.pan r37p, p36.2)) fun r37 =>
          (call n_warrantorref20_Sorted [AV.canon r26] p36.2).bind fun p38 => retOr p38.1 (fun r39p => some (AEnd.pan r39p, p38.2)) fun r39 =>
          (call n_warrantorref20_Same [AV.canon r37, AV.canon r39] p38.2).bind fun p40 => retOr p40.1 (fun r41p => some (AEnd.pan r41p, p40.2)) fun r41 =>
          (unOp .not r41).bind fun v42 =>
          law20_FingerTurns.j4 J  x0 x5 r24 r26 v42 p40.2)))) := (hJ _ _ _ (by kernel_rfl)).trans (by kernel_rfl)
theorem law20_FingerTurns.j2_eq {call : Cl} {n : Nat} {J : Jn (AEnd × H)} (hJ : law20_FingerTurns.F call n J) (m0 : Nat) (x0 x1 x5 x6 x7 x8 x60 : AV) (h : H) : law20_FingerTurns.j2 J m0 x0 x1 x5 x6 x7 x8 x60 h =
  condV x60 (
    (ixSlice 6 x5 x7).bind fun v43 =>
    (ldAgg 6 h v43).bind fun v44 =>
    let h45 : H := h ++ [.arr [.int .i64 0, .int .i64 0, .str [], .str [], .int .i64 0, .str []] false]
    (stN 6 h45 (.ptr h.length 0) (AV.copy v44)).bind fun p46 =>
    (ixSlice 6 x5 x8).bind fun v47 =>
    (ldAgg 6 p46.2 v47).bind fun v48 =>
    (ixSlice 6 x5 x7).bind fun v49 =>
    (stN 6 p46.2 v49 (AV.copy v48)).bind fun p50 =>
    (ldAgg 6 p50.2 (.ptr h.length 0)).bind fun v51 =>
    (ixSlice 6 x5 x8).bind fun v52 =>
    (stN 6 p50.2 v52 (AV.copy v51)).bind fun p53 =>
    (bin .add x6 (.int .i64 2)).bind fun v54 =>
    law20_FingerTurns.l0 J m0 x0 x1 x5 v54 p53.2) (
    (bin .add x6 (.int .i64 2)).bind fun v55 =>
    law20_FingerTurns.l0 J m0 x0 x1 x5 v55 h) := (hJ _ _ _ (by kernel_rfl)).trans (by kernel_rfl)
theorem law20_FingerTurns.j4_eq {call : Cl} {n : Nat} {J : Jn (AEnd × H)} (hJ : law20_FingerTurns.F call n J) (x0 x5 x10 x11 x103 : AV) (h : H) : law20_FingerTurns.j4 J  x0 x5 x10 x11 x103 h =
  condV x103 (
    some (AEnd.ret (.bool false), h)) (
    law20_FingerTurns.j3 J  x0 x5 x10 x11 h) := (hJ _ _ _ (by kernel_rfl)).trans (by kernel_rfl)
theorem law20_FingerTurns.j3_eq {call : Cl} {n : Nat} {J : Jn (AEnd × H)} (hJ : law20_FingerTurns.F call n J) (x0 x5 x10 x11 : AV) (h : H) : law20_FingerTurns.j3 J  x0 x5 x10 x11 h =
  law20_FingerTurns.l1 J n x0 x5 x10 x11 (.int .i64 0) h := (hJ _ _ _ (by kernel_rfl)).trans (by kernel_rfl)
theorem law20_FingerTurns.l1_eq {call : Cl} {n : Nat} {J : Jn (AEnd × H)} (hJ : law20_FingerTurns.F call n J) (m0 : Nat) (x0 x5 x10 x11 x12 : AV) (h : H) : law20_FingerTurns.l1 J (m0 + 1) x0 x5 x10 x11 x12 h =
  (lnSl x0).bind fun v56 =>
  (bin .lss x12 v56).bind fun v57 =>
  condV v57 (
    law20_FingerTurns.l2 J m0 n x0 x5 x10 x11 x12 (.int .i64 0) h) (
    some (AEnd.ret (.bool true), h)) := (hJ _ _ _ (by kernel_rfl)).trans (by kernel_rfl)
theorem law20_FingerTurns.l2_eq {call : Cl} {n : Nat} {J : Jn (AEnd × H)} (hJ : law20_FingerTurns.F call n J) (m0 m1 : Nat) (x0 x5 x10 x11 x12 x13 : AV) (h : H) : law20_FingerTurns.l2 J m0 (m1 + 1) x0 x5 x10 x11 x12 x13 h =
  (lnSl x5).bind fun v58 =>
  (bin .lss x13 v58).bind fun v59 =>
  condV v59 (
    (ixSlice 6 x0 x12).bind fun v60 =>
    (ldAgg 6 h v60).bind fun v61 =>
    (ixSlice 6 x5 x13).bind fun v62 =>
    (ldAgg 6 h v62).bind fun v63 =>
    (eqv false (aeq Try.prog 20 t_api_Alarm v61 v63)).bind fun v64 =>
    law20_FingerTurns.l3 J m0 m1 n x0 x5 x10 x11 x12 x13 v64 (.int .i64 0) h) (
    (bin .add x12 (.int .i64 1)).bind fun v65 =>
    law20_FingerTurns.l1 J m0 x0 x5 x10 x11 v65 h) := (hJ _ _ _ (by kernel_rfl)).trans (by kernel_rfl)
theorem law20_FingerTurns.l3_eq {call : Cl} {n : Nat} {J : Jn (AEnd × H)} (hJ : law20_FingerTurns.F call n J) (m0 m1 m2 : Nat) (x0 x5 x10 x11 x12 x13 x14 x15 : AV) (h : H) : law20_FingerTurns.l3 J m0 m1 (m2 + 1) x0 x5 x10 x11 x12 x13 x14 x15 h =
  (lnSl x0).bind fun v66 =>
  (bin .lss x15 v66).bind fun v67 =>
  condV v67 (
    condV x14 (
      (bin .eql x15 x12).bind fun v68 =>
      condV v68 (
        (bin .add x15 (.int .i64 1)).bind fun v69 =>
        law20_FingerTurns.l3 J m0 m1 m2 x0 x5 x10 x11 x12 x13 (.bool true) v69 h) (
        (ixSlice 6 x0 x15).bind fun v70 =>
        (ldAgg 6 h v70).bind fun v71 =>
        (ixSlice 6 x0 x12).bind fun v72 =>
        (ldAgg 6 h v72).bind fun v73 =>
        (eqv true (aeq Try.prog 20 t_api_Alarm v71 v73)).bind fun v74 =>
        (bin .add x15 (.int .i64 1)).bind fun v75 =>
        law20_FingerTurns.l3 J m0 m1 m2 x0 x5 x10 x11 x12 x13 v74 v75 h)) (
      (bin .add x15 (.int .i64 1)).bind fun v76 =>
      law20_FingerTurns.l3 J m0 m1 m2 x0 x5 x10 x11 x12 x13 (.bool false) v76 h)) (
    condV x14 (
      (ixSlice 1 x10 x12).bind fun v77 =>
      (ldCell h v77).bind fun v78 =>
      (ixSlice 1 x11 x13).bind fun v79 =>
      (ldCell h v79).bind fun v80 =>
      (bin .neq v78 v80).bind fun v81 =>
      law20_FingerTurns.j5 J m0 m1 x0 x5 x10 x11 x12 x13 v81 h) (
      law20_FingerTurns.j5 J m0 m1 x0 x5 x10 x11 x12 x13 (.bool false) h)) := (hJ _ _ _ (by kernel_rfl)).trans (by kernel_rfl)
theorem law20_FingerTurns.j5_eq {call : Cl} {n : Nat} {J : Jn (AEnd × H)} (hJ : law20_FingerTurns.F call n J) (m0 m1 : Nat) (x0 x5 x10 x11 x12 x13 x159 : AV) (h : H) : law20_FingerTurns.j5 J m0 m1 x0 x5 x10 x11 x12 x13 x159 h =
  condV x159 (
    some (AEnd.ret (.bool false), h)) (
    (bin .add x13 (.int .i64 1)).bind fun v82 =>
    law20_FingerTurns.l2 J m0 m1 x0 x5 x10 x11 x12 v82 h) := (hJ _ _ _ (by kernel_rfl)).trans (by kernel_rfl)
noncomputable def law20_FingerSpaces.A : FAnn := { nv := 7, mv := [(6, 0), (9, 0), (14, 0), (15, 2), (15, 4)], ld := [], lst := [], obj := [], q := [], raw := [] }
noncomputable def law20_FingerSpaces.an : Ann := .mk none .nil (.mk none .nil (.mk none .nil (.mk none (.mk none .nil (.mk none (.mk none (.mk (some [(0, 0), (3, 255), (4, 0)]) .nil (.mk none (.mk none (.mk none (.mk none .nil (.mk none (.mk none (.mk (some [(0, 0), (3, 255), (4, 0), (5, 0)]) .nil (.mk none (.mk none (.mk none .nil (.mk (some [(0, 0), (3, 255), (4, 0), (5, 0), (44, 0)]) .nil .nil)) .nil) .nil)) .nil) .nil)) .nil) .nil) .nil)) .nil) .nil)) .nil)))
noncomputable abbrev law20_FingerSpaces.c : Code := Try.f6.body.getD .skip
noncomputable def law20_FingerSpaces.J (call : Cl) (n : Nat) : Jn (AEnd × H) := realJ Try.prog law20_FingerSpaces.A call Try.f6 law20_FingerSpaces.an law20_FingerSpaces.c n
abbrev law20_FingerSpaces.F (call : Cl) (n : Nat) (J : Jn (AEnd × H)) : Prop := JFix Try.prog law20_FingerSpaces.A call Try.f6 law20_FingerSpaces.an law20_FingerSpaces.c n J
def law20_FingerSpaces.f (J : Jn (AEnd × H)) (x0 : AV) (h : H) : Option (AEnd × H) := J [] [] ⟨[(0, x0)], [], [], h⟩
def law20_FingerSpaces.l0 (J : Jn (AEnd × H)) (m0 : Nat) (x0 x3 x4 : AV) (h : H) : Option (AEnd × H) := J [1, 1, 1, 0, 1, 0] [m0] ⟨[(0, x0), (3, x3), (4, x4)], [(0, 0), (3, 255), (4, 0)], [], h⟩
def law20_FingerSpaces.l1 (J : Jn (AEnd × H)) (m0 m1 : Nat) (x0 x3 x4 x5 : AV) (h : H) : Option (AEnd × H) := J [1, 1, 1, 0, 1, 0, 0, 1, 0, 0, 0, 1, 0] [m0, m1] ⟨[(0, x0), (3, x3), (4, x4), (5, x5)], [(0, 0), (3, 255), (4, 0), (5, 0)], [], h⟩
def law20_FingerSpaces.j0 (J : Jn (AEnd × H)) (m0 m1 : Nat) (x0 x3 x4 x5 x44 : AV) (h : H) : Option (AEnd × H) := J [1, 1, 1, 0, 1, 0, 0, 1, 0, 0, 0, 1, 0, 0, 1, 0, 0, 1] [m0, m1] ⟨[(0, x0), (3, x3), (4, x4), (5, x5), (44, x44)], [(0, 0), (3, 255), (4, 0), (5, 0), (44, 0)], [], h⟩
theorem law20_FingerSpaces.f_eq {call : Cl} {n : Nat} {J : Jn (AEnd × H)} (hJ : law20_FingerSpaces.F call n J) (x0 : AV) (h : H) : law20_FingerSpaces.f J x0 h =
  (call n_warrantorref17_Large [AV.canon x0] h).bind fun p1 => retOr p1.1 (fun r2p => some (AEnd.pan r2p, p1.2)) fun r2 =>
  condV r2 (
    (call n_warrantorlaw20_lives [] p1.2).bind fun p3 => retOr p3.1 (fun r4p => some (AEnd.pan r4p, p3.2)) fun r4 =>
    some (AEnd.ret r4, p3.2)) (
    law20_FingerSpaces.l0 J n x0 (.list [] .cap) (.int .i64 0) p1.2) := (hJ _ _ _ (by kernel_rfl)).trans (by kernel_rfl)
theorem law20_FingerSpaces.l0_eq {call : Cl} {n : Nat} {J : Jn (AEnd × H)} (hJ : law20_FingerSpaces.F call n J) (m0 : Nat) (x0 x3 x4 : AV) (h : H) : law20_FingerSpaces.l0 J (m0 + 1) x0 x3 x4 h =
  (lnSl x0).bind fun v5 =>
  (bin .lss x4 v5).bind fun v6 =>
  condV v6 (
    law20_FingerSpaces.l1 J m0 n x0 x3 x4 (.int .i64 0) h) (
    (call n_warrantorlaw20_lives [] h).bind fun p7 => retOr p7.1 (fun r8p => some (AEnd.pan r8p, p7.2)) fun r8 =>
    condV r8 (
      (call n_finger_Of [AV.canon x3] p7.2).bind fun p9 => retOr p9.1 (fun r10p => some (AEnd.pan r10p, p9.2)) fun r10 =>
      (call n_finger_Of [AV.canon x0] p9.2).bind fun p11 => retOr p11.1 (fun r12p => some (AEnd.pan r12p, p11.2)) fun r12 =>
      (call n_warrantorref20_Same [AV.canon r10, AV.canon r12] p11.2).bind fun p13 => retOr p13.1 (fun r14p => some (AEnd.pan r14p, p13.2)) fun r14 =>
      some (AEnd.ret (AV.copy r14), p13.2)) (
      some (AEnd.ret (AV.copy (.bool false)), p7.2))) := (hJ _ _ _ (by kernel_rfl)).trans (by kernel_rfl)
theorem law20_FingerSpaces.l1_eq {call : Cl} {n : Nat} {J : Jn (AEnd × H)} (hJ : law20_FingerSpaces.F call n J) (m0 m1 : Nat) (x0 x3 x4 x5 : AV) (h : H) : law20_FingerSpaces.l1 J m0 (m1 + 1) x0 x3 x4 x5 h =
  (bin .lss x5 x4).bind fun v15 =>
  condV v15 (
    (ixSlice 6 x0 x5).bind fun v16 =>
    (fAddr 3 v16).bind fun v17 =>
    (ldCell h v17).bind fun v18 =>
    (ixSlice 6 x0 x4).bind fun v19 =>
    (fAddr 3 v19).bind fun v20 =>
    (ldCell h v20).bind fun v21 =>
    (bin .eql v18 v21).bind fun v22 =>
    condV v22 (
      (ixSlice 6 x0 x5).bind fun v23 =>
      (fAddr 4 v23).bind fun v24 =>
      (ldCell h v24).bind fun v25 =>
      (ixSlice 6 x0 x4).bind fun v26 =>
      (fAddr 4 v26).bind fun v27 =>
      (ldCell h v27).bind fun v28 =>
      (bin .eql v25 v28).bind fun v29 =>
      law20_FingerSpaces.j0 J m0 m1 x0 x3 x4 x5 v29 h) (
      law20_FingerSpaces.j0 J m0 m1 x0 x3 x4 x5 (.bool false) h)) (
    (ixSlice 6 x0 x4).bind fun v30 =>
    (ldAgg 6 h v30).bind fun v31 =>
    let h32 : H := h ++ [.arr [.int .i64 0, .int .i64 0, .str [], .str [], .int .i64 0, .str []] false]
    (stN 6 h32 (.ptr h.length 0) (AV.copy v31)).bind fun p33 =>
    (fAddr 5 (.ptr h.length 0)).bind fun v34 =>
    (ldCell p33.2 v34).bind fun v35 =>
    (call n_warrantorref18_Norm [AV.canon v35] p33.2).bind fun p36 => retOr p36.1 (fun r37p => some (AEnd.pan r37p, p36.2)) fun r37 =>
    (fAddr 5 (.ptr h.length 0)).bind fun v38 =>
    (stN 1 p36.2 v38 r37).bind fun p39 =>
    (ldAgg 6 p39.2 (.ptr h.length 0)).bind fun v40 =>
    (mkRows 6 [.int .i64 0, .int .i64 0, .str [], .str [], .int .i64 0, .str []] 1 [(0, v40)]).bind fun v41 =>
    (apSlice 6 72 false true p39.2 x3 v41).bind fun v42 =>
    (bin .add x4 (.int .i64 1)).bind fun v43 =>
    law20_FingerSpaces.l0 J m0 x0 v42 v43 p39.2) := (hJ _ _ _ (by kernel_rfl)).trans (by kernel_rfl)
theorem law20_FingerSpaces.j0_eq {call : Cl} {n : Nat} {J : Jn (AEnd × H)} (hJ : law20_FingerSpaces.F call n J) (m0 m1 : Nat) (x0 x3 x4 x5 x44 : AV) (h : H) : law20_FingerSpaces.j0 J m0 m1 x0 x3 x4 x5 x44 h =
  condV x44 (
    (call n_warrantorlaw20_lives [] h).bind fun p44 => retOr p44.1 (fun r45p => some (AEnd.pan r45p, p44.2)) fun r45 =>
    some (AEnd.ret r45, p44.2)) (
    (bin .add x5 (.int .i64 1)).bind fun v46 =>
    law20_FingerSpaces.l1 J m0 m1 x0 x3 x4 v46 h) := (hJ _ _ _ (by kernel_rfl)).trans (by kernel_rfl)
noncomputable def law25_BaseSums.A : FAnn := { nv := 14, mv := [(10, 0), (14, 0), (14, 3), (14, 7), (14, 12), (15, 0), (15, 3), (15, 7), (15, 14), (15, 15), (15, 16)], ld := [], lst := [], obj := [], q := [], raw := [] }
noncomputable def law25_BaseSums.an : Ann := .mk none .nil (.mk none (.mk none .nil (.mk (some [(0, 0), (1, 0), (2, 0), (19, 0)]) .nil .nil)) (.mk (some [(0, 0), (1, 0), (2, 0)]) .nil (.mk none .nil (.mk none .nil (.mk none (.mk none .nil (.mk (some [(0, 0), (1, 0), (2, 0), (7, 1), (8, 1), (9, 1), (10, 1), (11, 0), (12, 1), (78, 0)]) .nil .nil)) (.mk (some [(0, 0), (1, 0), (2, 0), (7, 1), (8, 1), (9, 1), (10, 1), (11, 0), (12, 1)]) (.mk none .nil (.mk none (.mk none (.mk (some [(0, 0), (1, 0), (2, 0), (7, 1), (8, 1), (9, 1), (10, 1), (11, 0), (12, 1), (13, 0)]) .nil (.mk none (.mk none (.mk none .nil (.mk (some [(0, 0), (1, 0), (2, 0), (7, 1), (8, 1), (9, 1), (10, 1), (11, 0), (12, 1), (13, 0), (102, 0)]) .nil .nil)) .nil) .nil)) .nil) .nil)) (.mk none (.mk none .nil (.mk (some [(0, 0), (1, 0), (7, 1), (8, 1), (9, 1), (10, 1), (110, 0)]) .nil .nil)) (.mk (some [(0, 0), (1, 0), (7, 1), (8, 1), (9, 1), (10, 1)]) .nil .nil))))))))
noncomputable abbrev law25_BaseSums.c : Code := Try.f7.body.getD .skip
noncomputable def law25_BaseSums.J (call : Cl) (n : Nat) : Jn (AEnd × H) := realJ Try.prog law25_BaseSums.A call Try.f7 law25_BaseSums.an law25_BaseSums.c n
abbrev law25_BaseSums.F (call : Cl) (n : Nat) (J : Jn (AEnd × H)) : Prop := JFix Try.prog law25_BaseSums.A call Try.f7 law25_BaseSums.an law25_BaseSums.c n J
def law25_BaseSums.f (J : Jn (AEnd × H)) (x0 x1 x2 : AV) (h : H) : Option (AEnd × H) := J [] [] ⟨[(0, x0), (1, x1), (2, x2)], [], [], h⟩
def law25_BaseSums.j1 (J : Jn (AEnd × H)) (x0 x1 x2 x19 : AV) (h : H) : Option (AEnd × H) := J [1, 0, 1] [] ⟨[(0, x0), (1, x1), (2, x2), (19, x19)], [(0, 0), (1, 0), (2, 0), (19, 0)], [], h⟩
def law25_BaseSums.j0 (J : Jn (AEnd × H)) (x0 x1 x2 : AV) (h : H) : Option (AEnd × H) := J [1, 1] [] ⟨[(0, x0), (1, x1), (2, x2)], [(0, 0), (1, 0), (2, 0)], [], h⟩
def law25_BaseSums.j3 (J : Jn (AEnd × H)) (x0 x1 x2 x7 x8 x9 x10 x11 x12 x78 : AV) (h : H) : Option (AEnd × H) := J [1, 1, 1, 1, 1, 0, 1] [] ⟨[(0, x0), (1, x1), (2, x2), (7, x7), (8, x8), (9, x9), (10, x10), (11, x11), (12, x12), (78, x78)], [(0, 0), (1, 0), (2, 0), (7, 1), (8, 1), (9, 1), (10, 1), (11, 0), (12, 1), (78, 0)], [], h⟩
def law25_BaseSums.j2 (J : Jn (AEnd × H)) (x0 x1 x2 x7 x8 x9 x10 x11 x12 : AV) (h : H) : Option (AEnd × H) := J [1, 1, 1, 1, 1, 1] [] ⟨[(0, x0), (1, x1), (2, x2), (7, x7), (8, x8), (9, x9), (10, x10), (11, x11), (12, x12)], [(0, 0), (1, 0), (2, 0), (7, 1), (8, 1), (9, 1), (10, 1), (11, 0), (12, 1)], [], h⟩
def law25_BaseSums.l0 (J : Jn (AEnd × H)) (m0 : Nat) (x0 x1 x2 x7 x8 x9 x10 x11 x12 x13 : AV) (h : H) : Option (AEnd × H) := J [1, 1, 1, 1, 1, 1, 0, 1, 0] [m0] ⟨[(0, x0), (1, x1), (2, x2), (7, x7), (8, x8), (9, x9), (10, x10), (11, x11), (12, x12), (13, x13)], [(0, 0), (1, 0), (2, 0), (7, 1), (8, 1), (9, 1), (10, 1), (11, 0), (12, 1), (13, 0)], [], h⟩
def law25_BaseSums.j4 (J : Jn (AEnd × H)) (m0 : Nat) (x0 x1 x2 x7 x8 x9 x10 x11 x12 x13 x102 : AV) (h : H) : Option (AEnd × H) := J [1, 1, 1, 1, 1, 1, 0, 1, 0, 0, 1, 0, 0, 1] [m0] ⟨[(0, x0), (1, x1), (2, x2), (7, x7), (8, x8), (9, x9), (10, x10), (11, x11), (12, x12), (13, x13), (102, x102)], [(0, 0), (1, 0), (2, 0), (7, 1), (8, 1), (9, 1), (10, 1), (11, 0), (12, 1), (13, 0), (102, 0)], [], h⟩
def law25_BaseSums.j6 (J : Jn (AEnd × H)) (x0 x1 x7 x8 x9 x10 x110 : AV) (h : H) : Option (AEnd × H) := J [1, 1, 1, 1, 1, 1, 1, 0, 1] [] ⟨[(0, x0), (1, x1), (7, x7), (8, x8), (9, x9), (10, x10), (110, x110)], [(0, 0), (1, 0), (7, 1), (8, 1), (9, 1), (10, 1), (110, 0)], [], h⟩
def law25_BaseSums.j5 (J : Jn (AEnd × H)) (x0 x1 x7 x8 x9 x10 : AV) (h : H) : Option (AEnd × H) := J [1, 1, 1, 1, 1, 1, 1, 1] [] ⟨[(0, x0), (1, x1), (7, x7), (8, x8), (9, x9), (10, x10)], [(0, 0), (1, 0), (7, 1), (8, 1), (9, 1), (10, 1)], [], h⟩
theorem law25_BaseSums.f_eq {call : Cl} {n : Nat} {J : Jn (AEnd × H)} (hJ : law25_BaseSums.F call n J) (x0 x1 x2 : AV) (h : H) : law25_BaseSums.f J x0 x1 x2 h =
  (call n_warrantorref25_Large [AV.canon x0, AV.canon (.int .i64 300)] h).bind fun p1 => retOr p1.1 (fun r2p => some (AEnd.pan r2p, p1.2)) fun r2 =>
  condV r2 (
    law25_BaseSums.j1 J  x0 x1 x2 (.bool true) p1.2) (
    (call n_warrantorref25_Large [AV.canon x1, AV.canon (.int .i64 300)] p1.2).bind fun p3 => retOr p3.1 (fun r4p => some (AEnd.pan r4p, p3.2)) fun r4 =>
    law25_BaseSums.j1 J  x0 x1 x2 r4 p3.2) := (hJ _ _ _ (by kernel_rfl)).trans (by kernel_rfl)
theorem law25_BaseSums.j1_eq {call : Cl} {n : Nat} {J : Jn (AEnd × H)} (hJ : law25_BaseSums.F call n J) (x0 x1 x2 x19 : AV) (h : H) : law25_BaseSums.j1 J  x0 x1 x2 x19 h =
  condV x19 (
    (call n_warrantorlaw25_lives [] h).bind fun p5 => retOr p5.1 (fun r6p => some (AEnd.pan r6p, p5.2)) fun r6 =>
    some (AEnd.ret r6, p5.2)) (
    law25_BaseSums.j0 J  x0 x1 x2 h) := (hJ _ _ _ (by kernel_rfl)).trans (by kernel_rfl)
theorem law25_BaseSums.j0_eq {call : Cl} {n : Nat} {J : Jn (AEnd × H)} (hJ : law25_BaseSums.F call n J) (x0 x1 x2 : AV) (h : H) : law25_BaseSums.j0 J  x0 x1 x2 h =
  (call n_base_Union [AV.canon x0, AV.canon x1] h).bind fun p7 => retOr p7.1 (fun r8p => some (AEnd.pan r8p, p7.2)) fun r8 =>
  (exTuple 0 r8).bind fun v9 =>
  (exTuple 1 r8).bind fun v10 =>
  (call n_base_Less [AV.canon x0, AV.canon x1] p7.2).bind fun p11 => retOr p11.1 (fun r12p => some (AEnd.pan r12p, p11.2)) fun r12 =>
  (exTuple 0 r12).bind fun v13 =>
  (exTuple 1 r12).bind fun v14 =>
  (call n_base_Find [AV.canon x0, AV.canon x2] p11.2).bind fun p15 => retOr p15.1 (fun r16p => some (AEnd.pan r16p, p15.2)) fun r16 =>
  (exTuple 0 r16).bind fun v17 =>
  (exTuple 1 r16).bind fun v18 =>
  let h19 : H := p15.2 ++ [.arr [.int .u64 0, .str []] false]
  (stN 2 h19 (.ptr p15.2.length 0) v17).bind fun p20 =>
  (call n_warrantorlaw25_lives [] p20.2).bind fun p21 => retOr p21.1 (fun r22p => some (AEnd.pan r22p, p21.2)) fun r22 =>
  (unOp .not r22).bind fun v23 =>
  condV v23 (
    law25_BaseSums.j3 J  x0 x1 x2 v9 v10 v13 v14 (.ptr p15.2.length 0) v18 (.bool true) p21.2) (
    (call n_base_Same [AV.canon x0, AV.canon x1] p21.2).bind fun p24 => retOr p24.1 (fun r25p => some (AEnd.pan r25p, p24.2)) fun r25 =>
    (call n_warrantorref21_SameMarks [AV.canon x0, AV.canon x1] p24.2).bind fun p26 => retOr p26.1 (fun r27p => some (AEnd.pan r27p, p26.2)) fun r27 =>
    (binBool .neq r25 r27).bind fun v28 =>
    condV v28 (
      law25_BaseSums.j3 J  x0 x1 x2 v9 v10 v13 v14 (.ptr p15.2.length 0) v18 (.bool true) p26.2) (
      (call n_warrantorref21_Base [AV.canon x0] p26.2).bind fun p29 => retOr p29.1 (fun r30p => some (AEnd.pan r30p, p29.2)) fun r30 =>
      condV r30 (
        (call n_warrantorref25_Has [AV.canon x0, AV.canon x2] p29.2).bind fun p31 => retOr p31.1 (fun r32p => some (AEnd.pan r32p, p31.2)) fun r32 =>
        (binBool .neq v18 r32).bind fun v33 =>
        condV v33 (
          law25_BaseSums.j3 J  x0 x1 x2 v9 v10 v13 v14 (.ptr p15.2.length 0) v18 (.bool true) p31.2) (
          condV v18 (
            (fAddr 0 (.ptr p15.2.length 0)).bind fun v34 =>
            (ldCell p31.2 v34).bind fun v35 =>
            (bin .neq v35 x2).bind fun v36 =>
            condV v36 (
              law25_BaseSums.j3 J  x0 x1 x2 v9 v10 v13 v14 (.ptr p15.2.length 0) v18 (.bool true) p31.2) (
              (unOp .not v18).bind fun v37 =>
              condV v37 (
                (ldAgg 2 p31.2 (.ptr p15.2.length 0)).bind fun v38 =>
                (mkAgg [.int .u64 0, .str []] []).bind fun v39 =>
                (eqv true (aeq Try.prog 20 t_api_Mark v38 v39)).bind fun v40 =>
                law25_BaseSums.j3 J  x0 x1 x2 v9 v10 v13 v14 (.ptr p15.2.length 0) v18 v40 p31.2) (
                law25_BaseSums.j3 J  x0 x1 x2 v9 v10 v13 v14 (.ptr p15.2.length 0) v18 (.bool false) p31.2))) (
            (unOp .not v18).bind fun v41 =>
            condV v41 (
              (ldAgg 2 p31.2 (.ptr p15.2.length 0)).bind fun v42 =>
              (mkAgg [.int .u64 0, .str []] []).bind fun v43 =>
              (eqv true (aeq Try.prog 20 t_api_Mark v42 v43)).bind fun v44 =>
              law25_BaseSums.j3 J  x0 x1 x2 v9 v10 v13 v14 (.ptr p15.2.length 0) v18 v44 p31.2) (
              law25_BaseSums.j3 J  x0 x1 x2 v9 v10 v13 v14 (.ptr p15.2.length 0) v18 (.bool false) p31.2)))) (
        (binBool .neq v18 (.bool false)).bind fun v45 =>
        condV v45 (
          law25_BaseSums.j3 J  x0 x1 x2 v9 v10 v13 v14 (.ptr p15.2.length 0) v18 (.bool true) p29.2) (
          condV v18 (
            (fAddr 0 (.ptr p15.2.length 0)).bind fun v46 =>
            (ldCell p29.2 v46).bind fun v47 =>
            (bin .neq v47 x2).bind fun v48 =>
            condV v48 (
              law25_BaseSums.j3 J  x0 x1 x2 v9 v10 v13 v14 (.ptr p15.2.length 0) v18 (.bool true) p29.2) (
              (unOp .not v18).bind fun v49 =>
              condV v49 (
                (ldAgg 2 p29.2 (.ptr p15.2.length 0)).bind fun v50 =>
                (mkAgg [.int .u64 0, .str []] []).bind fun v51 =>
                (eqv true (aeq Try.prog 20 t_api_Mark v50 v51)).bind fun v52 =>
                law25_BaseSums.j3 J  x0 x1 x2 v9 v10 v13 v14 (.ptr p15.2.length 0) v18 v52 p29.2) (
                law25_BaseSums.j3 J  x0 x1 x2 v9 v10 v13 v14 (.ptr p15.2.length 0) v18 (.bool false) p29.2))) (
            (unOp .not v18).bind fun v53 =>
            condV v53 (
              (ldAgg 2 p29.2 (.ptr p15.2.length 0)).bind fun v54 =>
              (mkAgg [.int .u64 0, .str []] []).bind fun v55 =>
              (eqv true (aeq Try.prog 20 t_api_Mark v54 v55)).bind fun v56 =>
              law25_BaseSums.j3 J  x0 x1 x2 v9 v10 v13 v14 (.ptr p15.2.length 0) v18 v56 p29.2) (
              law25_BaseSums.j3 J  x0 x1 x2 v9 v10 v13 v14 (.ptr p15.2.length 0) v18 (.bool false) p29.2)))))) := (hJ _ _ _ (by kernel_rfl)).trans (by kernel_rfl)
theorem law25_BaseSums.j3_eq {call : Cl} {n : Nat} {J : Jn (AEnd × H)} (hJ : law25_BaseSums.F call n J) (x0 x1 x2 x7 x8 x9 x10 x11 x12 x78 : AV) (h : H) : law25_BaseSums.j3 J  x0 x1 x2 x7 x8 x9 x10 x11 x12 x78 h =
  condV x78 (
    some (AEnd.ret (.bool false), h)) (
    law25_BaseSums.j2 J  x0 x1 x2 x7 x8 x9 x10 x11 x12 h) := (hJ _ _ _ (by kernel_rfl)).trans (by kernel_rfl)
theorem law25_BaseSums.j2_eq {call : Cl} {n : Nat} {J : Jn (AEnd × H)} (hJ : law25_BaseSums.F call n J) (x0 x1 x2 x7 x8 x9 x10 x11 x12 : AV) (h : H) : law25_BaseSums.j2 J  x0 x1 x2 x7 x8 x9 x10 x11 x12 h =
  law25_BaseSums.l0 J n x0 x1 x2 x7 x8 x9 x10 x11 x12 (.int .i64 0) h := (hJ _ _ _ (by kernel_rfl)).trans (by kernel_rfl)
theorem law25_BaseSums.l0_eq {call : Cl} {n : Nat} {J : Jn (AEnd × H)} (hJ : law25_BaseSums.F call n J) (m0 : Nat) (x0 x1 x2 x7 x8 x9 x10 x11 x12 x13 : AV) (h : H) : law25_BaseSums.l0 J (m0 + 1) x0 x1 x2 x7 x8 x9 x10 x11 x12 x13 h =
  (lnSl x0).bind fun v57 =>
  (bin .lss x13 v57).bind fun v58 =>
  condV v58 (
    condV x12 (
      (ixSlice 2 x0 x13).bind fun v59 =>
      (fAddr 0 v59).bind fun v60 =>
      (ldCell h v60).bind fun v61 =>
      (bin .eql v61 x2).bind fun v62 =>
      condV v62 (
        (ixSlice 2 x0 x13).bind fun v63 =>
        (ldAgg 2 h v63).bind fun v64 =>
        (ldAgg 2 h x11).bind fun v65 =>
        (eqv true (aeq Try.prog 20 t_api_Mark v64 v65)).bind fun v66 =>
        law25_BaseSums.j4 J m0 x0 x1 x2 x7 x8 x9 x10 x11 x12 x13 v66 h) (
        law25_BaseSums.j4 J m0 x0 x1 x2 x7 x8 x9 x10 x11 x12 x13 (.bool false) h)) (
      law25_BaseSums.j4 J m0 x0 x1 x2 x7 x8 x9 x10 x11 x12 x13 (.bool false) h)) (
    (call n_warrantorref21_Base [AV.canon x0] h).bind fun p67 => retOr p67.1 (fun r68p => some (AEnd.pan r68p, p67.2)) fun r68 =>
    (unOp .not r68).bind fun v69 =>
    condV v69 (
      law25_BaseSums.j6 J  x0 x1 x7 x8 x9 x10 (.bool true) p67.2) (
      (call n_warrantorref21_Base [AV.canon x1] p67.2).bind fun p70 => retOr p70.1 (fun r71p => some (AEnd.pan r71p, p70.2)) fun r71 =>
      (unOp .not r71).bind fun v72 =>
      law25_BaseSums.j6 J  x0 x1 x7 x8 x9 x10 v72 p70.2)) := (hJ _ _ _ (by kernel_rfl)).trans (by kernel_rfl)
theorem law25_BaseSums.j4_eq {call : Cl} {n : Nat} {J : Jn (AEnd × H)} (hJ : law25_BaseSums.F call n J) (m0 : Nat) (x0 x1 x2 x7 x8 x9 x10 x11 x12 x13 x102 : AV) (h : H) : law25_BaseSums.j4 J m0 x0 x1 x2 x7 x8 x9 x10 x11 x12 x13 x102 h =
  condV x102 (
    some (AEnd.ret (.bool false), h)) (
    (bin .add x13 (.int .i64 1)).bind fun v73 =>
    law25_BaseSums.l0 J m0 x0 x1 x2 x7 x8 x9 x10 x11 x12 v73 h) := (hJ _ _ _ (by kernel_rfl)).trans (by kernel_rfl)
theorem law25_BaseSums.j5_eq {call : Cl} {n : Nat} {J : Jn (AEnd × H)} (hJ : law25_BaseSums.F call n J) (x0 x1 x7 x8 x9 x10 : AV) (h : H) : law25_BaseSums.j5 J  x0 x1 x7 x8 x9 x10 h =
  (bin .eql x8 (.int .i64 0)).bind fun v80 =>
  condV v80 (
    (bin .eql x10 (.int .i64 0)).bind fun v81 =>
    condV v81 (
      (call n_warrantorref25_Union [AV.canon x0, AV.canon x1] h).bind fun p82 => retOr p82.1 (fun r83p => some (AEnd.pan r83p, p82.2)) fun r83 =>
      (call n_warrantorref21_SameMarks [AV.canon x7, AV.canon r83] p82.2).bind fun p84 => retOr p84.1 (fun r85p => some (AEnd.pan r85p, p84.2)) fun r85 =>
      condV r85 (
        (call n_warrantorref25_Less [AV.canon x0, AV.canon x1] p84.2).bind fun p86 => retOr p86.1 (fun r87p => some (AEnd.pan r87p, p86.2)) fun r87 =>
        (call n_warrantorref21_SameMarks [AV.canon x9, AV.canon r87] p86.2).bind fun p88 => retOr p88.1 (fun r89p => some (AEnd.pan r89p, p88.2)) fun r89 =>
        some (AEnd.ret (AV.copy r89), p88.2)) (
        some (AEnd.ret (AV.copy (.bool false)), p84.2))) (
      some (AEnd.ret (AV.copy (.bool false)), h))) (
    some (AEnd.ret (AV.copy (.bool false)), h)) := (hJ _ _ _ (by kernel_rfl)).trans (by kernel_rfl)
noncomputable def law25_BaseMany.A : FAnn := { nv := 14, mv := [(7, 0), (8, 0), (11, 0), (12, 0), (15, 0), (15, 1), (15, 3), (16, 0), (16, 1), (18, 2), (18, 6), (19, 2), (19, 6), (19, 8)], ld := [], lst := [], obj := [], q := [], raw := [] }
noncomputable def law25_BaseMany.an : Ann := .mk none .nil (.mk none (.mk none .nil (.mk (some [(0, 0), (1, 0), (2, 0), (36, 0)]) .nil .nil)) (.mk (some [(0, 0), (1, 0), (2, 0)]) .nil (.mk none .nil (.mk none (.mk none .nil (.mk none (.mk none (.mk (some [(0, 0), (1, 0), (2, 0), (7, 255), (8, 255), (9, 0)]) .nil .nil) .nil) .nil)) (.mk none (.mk none .nil (.mk none (.mk none (.mk (some [(0, 0), (1, 0), (2, 0), (7, 255), (8, 255), (10, 0)]) .nil .nil) .nil) .nil)) (.mk none .nil (.mk none .nil (.mk (some [(7, 255), (8, 255), (11, 0)]) .nil .nil))))))))
noncomputable abbrev law25_BaseMany.c : Code := Try.f8.body.getD .skip
noncomputable def law25_BaseMany.J (call : Cl) (n : Nat) : Jn (AEnd × H) := realJ Try.prog law25_BaseMany.A call Try.f8 law25_BaseMany.an law25_BaseMany.c n
abbrev law25_BaseMany.F (call : Cl) (n : Nat) (J : Jn (AEnd × H)) : Prop := JFix Try.prog law25_BaseMany.A call Try.f8 law25_BaseMany.an law25_BaseMany.c n J
def law25_BaseMany.f (J : Jn (AEnd × H)) (x0 x1 x2 : AV) (h : H) : Option (AEnd × H) := J [] [] ⟨[(0, x0), (1, x1), (2, x2)], [], [], h⟩
def law25_BaseMany.j1 (J : Jn (AEnd × H)) (x0 x1 x2 x36 : AV) (h : H) : Option (AEnd × H) := J [1, 0, 1] [] ⟨[(0, x0), (1, x1), (2, x2), (36, x36)], [(0, 0), (1, 0), (2, 0), (36, 0)], [], h⟩
def law25_BaseMany.j0 (J : Jn (AEnd × H)) (x0 x1 x2 : AV) (h : H) : Option (AEnd × H) := J [1, 1] [] ⟨[(0, x0), (1, x1), (2, x2)], [(0, 0), (1, 0), (2, 0)], [], h⟩
def law25_BaseMany.l0 (J : Jn (AEnd × H)) (m0 : Nat) (x0 x1 x2 x7 x8 x9 : AV) (h : H) : Option (AEnd × H) := J [1, 1, 1, 1, 0, 1, 0] [m0] ⟨[(0, x0), (1, x1), (2, x2), (7, x7), (8, x8), (9, x9)], [(0, 0), (1, 0), (2, 0), (7, 255), (8, 255), (9, 0)], [], h⟩
def law25_BaseMany.l1 (J : Jn (AEnd × H)) (m0 : Nat) (x0 x1 x2 x7 x8 x10 : AV) (h : H) : Option (AEnd × H) := J [1, 1, 1, 1, 1, 0, 1, 0] [m0] ⟨[(0, x0), (1, x1), (2, x2), (7, x7), (8, x8), (10, x10)], [(0, 0), (1, 0), (2, 0), (7, 255), (8, 255), (10, 0)], [], h⟩
def law25_BaseMany.j2 (J : Jn (AEnd × H)) (x7 x8 x11 : AV) (h : H) : Option (AEnd × H) := J [1, 1, 1, 1, 1, 1, 1, 1] [] ⟨[(7, x7), (8, x8), (11, x11)], [(7, 255), (8, 255), (11, 0)], [], h⟩
theorem law25_BaseMany.f_eq {call : Cl} {n : Nat} {J : Jn (AEnd × H)} (hJ : law25_BaseMany.F call n J) (x0 x1 x2 : AV) (h : H) : law25_BaseMany.f J x0 x1 x2 h =
  (bin .lss x0 (.int .i64 0)).bind fun v1 =>
  condV v1 (
    law25_BaseMany.j1 J  x0 x1 x2 (.bool true) h) (
    (bin .lss x1 (.int .i64 0)).bind fun v2 =>
    condV v2 (
      law25_BaseMany.j1 J  x0 x1 x2 (.bool true) h) (
      (bin .lss x2 (.int .i64 0)).bind fun v3 =>
      condV v3 (
        law25_BaseMany.j1 J  x0 x1 x2 (.bool true) h) (
        (bin .gtr x0 (.int .i64 1024)).bind fun v4 =>
        condV v4 (
          law25_BaseMany.j1 J  x0 x1 x2 (.bool true) h) (
          (bin .gtr x1 (.int .i64 1024)).bind fun v5 =>
          condV v5 (
            law25_BaseMany.j1 J  x0 x1 x2 (.bool true) h) (
            (bin .gtr x2 x0).bind fun v6 =>
            law25_BaseMany.j1 J  x0 x1 x2 v6 h))))) := (hJ _ _ _ (by kernel_rfl)).trans (by kernel_rfl)
theorem law25_BaseMany.j1_eq {call : Cl} {n : Nat} {J : Jn (AEnd × H)} (hJ : law25_BaseMany.F call n J) (x0 x1 x2 x36 : AV) (h : H) : law25_BaseMany.j1 J  x0 x1 x2 x36 h =
  condV x36 (
    (call n_warrantorlaw25_lives [] h).bind fun p7 => retOr p7.1 (fun r8p => some (AEnd.pan r8p, p7.2)) fun r8 =>
    some (AEnd.ret r8, p7.2)) (
    law25_BaseMany.j0 J  x0 x1 x2 h) := (hJ _ _ _ (by kernel_rfl)).trans (by kernel_rfl)
theorem law25_BaseMany.j0_eq {call : Cl} {n : Nat} {J : Jn (AEnd × H)} (hJ : law25_BaseMany.F call n J) (x0 x1 x2 : AV) (h : H) : law25_BaseMany.j0 J  x0 x1 x2 h =
  law25_BaseMany.l0 J n x0 x1 x2 (.list [] .cap) (.list [] .cap) (.int .i64 0) h := (hJ _ _ _ (by kernel_rfl)).trans (by kernel_rfl)
theorem law25_BaseMany.l0_eq {call : Cl} {n : Nat} {J : Jn (AEnd × H)} (hJ : law25_BaseMany.F call n J) (m0 : Nat) (x0 x1 x2 x7 x8 x9 : AV) (h : H) : law25_BaseMany.l0 J (m0 + 1) x0 x1 x2 x7 x8 x9 h =
  (bin .lss x9 x0).bind fun v9 =>
  condV v9 (
    (cvInt .u64 x9).bind fun v10 =>
    (mkAgg [.int .u64 0, .str []] [(0, 1, AV.copy v10)]).bind fun v11 =>
    (mkRows 2 [.int .u64 0, .str []] 1 [(0, v11)]).bind fun v12 =>
    (apSlice 2 24 false true h x7 v12).bind fun v13 =>
    (bin .add x9 (.int .i64 1)).bind fun v14 =>
    law25_BaseMany.l0 J m0 x0 x1 x2 v13 x8 v14 h) (
    law25_BaseMany.l1 J n x0 x1 x2 x7 x8 (.int .i64 0) h) := (hJ _ _ _ (by kernel_rfl)).trans (by kernel_rfl)
theorem law25_BaseMany.l1_eq {call : Cl} {n : Nat} {J : Jn (AEnd × H)} (hJ : law25_BaseMany.F call n J) (m0 : Nat) (x0 x1 x2 x7 x8 x10 : AV) (h : H) : law25_BaseMany.l1 J (m0 + 1) x0 x1 x2 x7 x8 x10 h =
  (bin .lss x10 x1).bind fun v15 =>
  condV v15 (
    (bin .sub x0 x2).bind fun v16 =>
    (bin .add v16 x10).bind fun v17 =>
    (cvInt .u64 v17).bind fun v18 =>
    (mkAgg [.int .u64 0, .str []] [(0, 1, AV.copy v18)]).bind fun v19 =>
    (mkRows 2 [.int .u64 0, .str []] 1 [(0, v19)]).bind fun v20 =>
    (apSlice 2 24 false true h x8 v20).bind fun v21 =>
    (bin .add x10 (.int .i64 1)).bind fun v22 =>
    law25_BaseMany.l1 J m0 x0 x1 x2 x7 v21 v22 h) (
    (bin .gtr x1 x2).bind fun v23 =>
    condV v23 (
      (bin .add x0 x1).bind fun v24 =>
      (bin .sub v24 x2).bind fun v25 =>
      law25_BaseMany.j2 J  x7 x8 v25 h) (
      law25_BaseMany.j2 J  x7 x8 x0 h)) := (hJ _ _ _ (by kernel_rfl)).trans (by kernel_rfl)
theorem law25_BaseMany.j2_eq {call : Cl} {n : Nat} {J : Jn (AEnd × H)} (hJ : law25_BaseMany.F call n J) (x7 x8 x11 : AV) (h : H) : law25_BaseMany.j2 J  x7 x8 x11 h =
  (call n_base_Union [AV.canon x7, AV.canon x8] h).bind fun p26 => retOr p26.1 (fun r27p => some (AEnd.pan r27p, p26.2)) fun r27 =>
  (exTuple 0 r27).bind fun v28 =>
  (exTuple 1 r27).bind fun v29 =>
  (bin .gtr x11 (.int .i64 1024)).bind fun v30 =>
  condV v30 (
    (call n_warrantorlaw25_lives [] p26.2).bind fun p31 => retOr p31.1 (fun r32p => some (AEnd.pan r32p, p31.2)) fun r32 =>
    condV r32 (
      (bin .eql v29 (.int .i64 3)).bind fun v33 =>
      condV v33 (
        (lnSl v28).bind fun v34 =>
        (bin .eql v34 (.int .i64 0)).bind fun v35 =>
        some (AEnd.ret (AV.copy v35), p31.2)) (
        some (AEnd.ret (AV.copy (.bool false)), p31.2))) (
      some (AEnd.ret (AV.copy (.bool false)), p31.2))) (
    (call n_warrantorlaw25_lives [] p26.2).bind fun p36 => retOr p36.1 (fun r37p => some (AEnd.pan r37p, p36.2)) fun r37 =>
    condV r37 (
      (bin .eql v29 (.int .i64 0)).bind fun v38 =>
      condV v38 (
        (lnSl v28).bind fun v39 =>
        (bin .eql v39 x11).bind fun v40 =>
        some (AEnd.ret (AV.copy v40), p36.2)) (
        some (AEnd.ret (AV.copy (.bool false)), p36.2))) (
      some (AEnd.ret (AV.copy (.bool false)), p36.2))) := (hJ _ _ _ (by kernel_rfl)).trans (by kernel_rfl)
noncomputable def ref17_Large.A : FAnn := { nv := 4, mv := [(5, 0)], ld := [], lst := [], obj := [], q := [], raw := [] }
noncomputable def ref17_Large.an : Ann := .mk none .nil (.mk none .nil (.mk none (.mk none .nil (.mk none (.mk none (.mk (some [(0, 0), (3, 0)]) .nil (.mk none (.mk none (.mk none .nil (.mk (some [(0, 0), (3, 0), (37, 0)]) .nil .nil)) .nil) .nil)) .nil) .nil)) .nil))
noncomputable abbrev ref17_Large.c : Code := Try.f9.body.getD .skip
noncomputable def ref17_Large.J (call : Cl) (n : Nat) : Jn (AEnd × H) := realJ Try.prog ref17_Large.A call Try.f9 ref17_Large.an ref17_Large.c n
abbrev ref17_Large.F (call : Cl) (n : Nat) (J : Jn (AEnd × H)) : Prop := JFix Try.prog ref17_Large.A call Try.f9 ref17_Large.an ref17_Large.c n J
def ref17_Large.f (J : Jn (AEnd × H)) (x0 : AV) (h : H) : Option (AEnd × H) := J [] [] ⟨[(0, x0)], [], [], h⟩
def ref17_Large.l0 (J : Jn (AEnd × H)) (m0 : Nat) (x0 x3 : AV) (h : H) : Option (AEnd × H) := J [1, 1, 0, 1, 0] [m0] ⟨[(0, x0), (3, x3)], [(0, 0), (3, 0)], [], h⟩
def ref17_Large.j0 (J : Jn (AEnd × H)) (m0 : Nat) (x0 x3 x37 : AV) (h : H) : Option (AEnd × H) := J [1, 1, 0, 1, 0, 0, 1, 0, 0, 1] [m0] ⟨[(0, x0), (3, x3), (37, x37)], [(0, 0), (3, 0), (37, 0)], [], h⟩
theorem ref17_Large.f_eq {call : Cl} {n : Nat} {J : Jn (AEnd × H)} (hJ : ref17_Large.F call n J) (x0 : AV) (h : H) : ref17_Large.f J x0 h =
  (lnSl x0).bind fun v1 =>
  (bin .gtr v1 (.int .i64 100)).bind fun v2 =>
  condV v2 (
    some (AEnd.ret (.bool true), h)) (
    ref17_Large.l0 J n x0 (.int .i64 0) h) := (hJ _ _ _ (by kernel_rfl)).trans (by kernel_rfl)
theorem ref17_Large.l0_eq {call : Cl} {n : Nat} {J : Jn (AEnd × H)} (hJ : ref17_Large.F call n J) (m0 : Nat) (x0 x3 : AV) (h : H) : ref17_Large.l0 J (m0 + 1) x0 x3 h =
  (lnSl x0).bind fun v3 =>
  (bin .lss x3 v3).bind fun v4 =>
  condV v4 (
    (ixSlice 6 x0 x3).bind fun v5 =>
    (fAddr 2 v5).bind fun v6 =>
    (ldCell h v6).bind fun v7 =>
    (lnStr v7).bind fun v8 =>
    (bin .gtr v8 (.int .i64 300)).bind fun v9 =>
    condV v9 (
      ref17_Large.j0 J m0 x0 x3 (.bool true) h) (
      (ixSlice 6 x0 x3).bind fun v10 =>
      (fAddr 3 v10).bind fun v11 =>
      (ldCell h v11).bind fun v12 =>
      (lnStr v12).bind fun v13 =>
      (bin .gtr v13 (.int .i64 300)).bind fun v14 =>
      condV v14 (
        ref17_Large.j0 J m0 x0 x3 (.bool true) h) (
        (ixSlice 6 x0 x3).bind fun v15 =>
        (fAddr 5 v15).bind fun v16 =>
        (ldCell h v16).bind fun v17 =>
        (lnStr v17).bind fun v18 =>
        (bin .gtr v18 (.int .i64 300)).bind fun v19 =>
        ref17_Large.j0 J m0 x0 x3 v19 h))) (
    some (AEnd.ret (.bool false), h)) := (hJ _ _ _ (by kernel_rfl)).trans (by kernel_rfl)
theorem ref17_Large.j0_eq {call : Cl} {n : Nat} {J : Jn (AEnd × H)} (hJ : ref17_Large.F call n J) (m0 : Nat) (x0 x3 x37 : AV) (h : H) : ref17_Large.j0 J m0 x0 x3 x37 h =
  condV x37 (
    some (AEnd.ret (.bool true), h)) (
    (bin .add x3 (.int .i64 1)).bind fun v20 =>
    ref17_Large.l0 J m0 x0 v20 h) := (hJ _ _ _ (by kernel_rfl)).trans (by kernel_rfl)
noncomputable def law20_lives.A : FAnn := { nv := 5, mv := [(7, 10), (7, 40)], ld := [], lst := [], obj := [], q := [12], raw := [] }
noncomputable def law20_lives.an : Ann := .nil
noncomputable abbrev law20_lives.c : Code := Try.f10.body.getD .skip
noncomputable def law20_lives.J (call : Cl) (n : Nat) : Jn (AEnd × H) := realJ Try.prog law20_lives.A call Try.f10 law20_lives.an law20_lives.c n
abbrev law20_lives.F (call : Cl) (n : Nat) (J : Jn (AEnd × H)) : Prop := JFix Try.prog law20_lives.A call Try.f10 law20_lives.an law20_lives.c n J
def law20_lives.f (J : Jn (AEnd × H)) (h : H) : Option (AEnd × H) := J [] [] ⟨[], [], [], h⟩
theorem law20_lives.f_eq {call : Cl} {n : Nat} {J : Jn (AEnd × H)} (hJ : law20_lives.F call n J) (h : H) : law20_lives.f J  h =
  (mkAgg [.int .i64 0, .int .i64 0, .str [], .str [], .int .i64 0, .str []] [(0, 1, AV.copy (.int .i64 1)), (1, 1, AV.copy (.int .i64 1)), (2, 1, AV.copy (.str [102])), (3, 1, AV.copy (.str [97, 46, 103, 111])), (4, 1, AV.copy (.int .i64 9)), (5, 1, AV.copy (.str [120, 32, 45, 32, 121, 32, 60, 61, 32, 48]))]).bind fun v1 =>
  let h2 : H := h ++ [.arr [.int .i64 0, .int .i64 0, .str [], .str [], .int .i64 0, .str []] false]
  (stN 6 h2 (.ptr h.length 0) v1).bind fun p3 =>
  (ldAgg 6 p3.2 (.ptr h.length 0)).bind fun v4 =>
  let h5 : H := p3.2 ++ [.arr [.int .i64 0, .int .i64 0, .str [], .str [], .int .i64 0, .str []] false]
  (stN 6 h5 (.ptr p3.2.length 0) (AV.copy v4)).bind fun p6 =>
  (fAddr 4 (.ptr p3.2.length 0)).bind fun v7 =>
  (stN 1 p6.2 v7 (.int .i64 3)).bind fun p8 =>
  (fAddr 5 (.ptr p3.2.length 0)).bind fun v9 =>
  (stN 1 p8.2 v9 (.str [120, 45, 121, 32, 60, 61, 48])).bind fun p10 =>
  (ldAgg 6 p10.2 (.ptr h.length 0)).bind fun v11 =>
  (ldAgg 6 p10.2 (.ptr p3.2.length 0)).bind fun v12 =>
  (mkRows 6 [.int .i64 0, .int .i64 0, .str [], .str [], .int .i64 0, .str []] 2 [(0, v11), (1, v12)]).bind fun v13 =>
  (call n_finger_Ranks [AV.canon v13] p10.2).bind fun p14 => retOr p14.1 (fun r15p => some (AEnd.pan r15p, p14.2)) fun r15 =>
  (ldAgg 6 p14.2 (.ptr h.length 0)).bind fun v16 =>
  (ldAgg 6 p14.2 (.ptr p3.2.length 0)).bind fun v17 =>
  (mkRows 6 [.int .i64 0, .int .i64 0, .str [], .str [], .int .i64 0, .str []] 2 [(0, v16), (1, v17)]).bind fun v18 =>
  (call n_finger_Of [AV.canon v18] p14.2).bind fun p19 => retOr p19.1 (fun r20p => some (AEnd.pan r20p, p19.2)) fun r20 =>
  (lnSl r15).bind fun v21 =>
  (bin .eql v21 (.int .i64 2)).bind fun v22 =>
  condV v22 (
    (ixSlice 1 r15 (.int .i64 0)).bind fun v23 =>
    (ldCell p19.2 v23).bind fun v24 =>
    (bin .eql v24 (.int .i64 1)).bind fun v25 =>
    condV v25 (
      (ixSlice 1 r15 (.int .i64 1)).bind fun v26 =>
      (ldCell p19.2 v26).bind fun v27 =>
      (bin .eql v27 (.int .i64 0)).bind fun v28 =>
      condV v28 (
        (lnSl r20).bind fun v29 =>
        (bin .eql v29 (.int .i64 2)).bind fun v30 =>
        condV v30 (
          (ixSlice 1 r20 (.int .i64 0)).bind fun v31 =>
          (ldCell p19.2 v31).bind fun v32 =>
          (ldAgg 6 p19.2 (.ptr p3.2.length 0)).bind fun v33 =>
          (call n_finger_One [AV.canon v33, AV.canon (.int .i64 1)] p19.2).bind fun p34 => retOr p34.1 (fun _ => none) fun r35 =>
          (bin .eql v32 r35).bind fun v36 =>
          condV v36 (
            (ixSlice 1 r20 (.int .i64 1)).bind fun v37 =>
            (ldCell p34.2 v37).bind fun v38 =>
            (ldAgg 6 p34.2 (.ptr h.length 0)).bind fun v39 =>
            (call n_finger_One [AV.canon v39, AV.canon (.int .i64 0)] p34.2).bind fun p40 => retOr p40.1 (fun _ => none) fun r41 =>
            (bin .eql v38 r41).bind fun v42 =>
            condV v42 (
              (ixSlice 1 r20 (.int .i64 0)).bind fun v43 =>
              (ldCell p40.2 v43).bind fun v44 =>
              (ixSlice 1 r20 (.int .i64 1)).bind fun v45 =>
              (ldCell p40.2 v45).bind fun v46 =>
              (bin .neq v44 v46).bind fun v47 =>
              some (AEnd.ret (AV.copy v47), p40.2)) (
              some (AEnd.ret (AV.copy (.bool false)), p40.2))) (
            some (AEnd.ret (AV.copy (.bool false)), p34.2))) (
          some (AEnd.ret (AV.copy (.bool false)), p19.2))) (
        some (AEnd.ret (AV.copy (.bool false)), p19.2))) (
      some (AEnd.ret (AV.copy (.bool false)), p19.2))) (
    some (AEnd.ret (AV.copy (.bool false)), p19.2)) := (hJ _ _ _ (by kernel_rfl)).trans (by kernel_rfl)
noncomputable def ref20_Rank.A : FAnn := { nv := 8, mv := [(4, 0), (6, 3), (7, 0), (8, 0)], ld := [], lst := [], obj := [], q := [32, 33], raw := [] }
noncomputable def ref20_Rank.an : Ann := .mk none .nil (.mk none .nil (.mk none (.mk none .nil (.mk none (.mk none (.mk (some [(0, 0), (1, 0), (5, 0), (6, 0)]) .nil (.mk none (.mk none (.mk none .nil (.mk none .nil (.mk (some [(0, 0), (1, 0), (5, 0), (6, 0), (46, 0)]) .nil .nil))) .nil) .nil)) .nil) .nil)) .nil))
noncomputable abbrev ref20_Rank.c : Code := Try.f11.body.getD .skip
noncomputable def ref20_Rank.J (call : Cl) (n : Nat) : Jn (AEnd × H) := realJ Try.prog ref20_Rank.A call Try.f11 ref20_Rank.an ref20_Rank.c n
abbrev ref20_Rank.F (call : Cl) (n : Nat) (J : Jn (AEnd × H)) : Prop := JFix Try.prog ref20_Rank.A call Try.f11 ref20_Rank.an ref20_Rank.c n J
def ref20_Rank.f (J : Jn (AEnd × H)) (x0 x1 : AV) (h : H) : Option (AEnd × H) := J [] [] ⟨[(0, x0), (1, x1)], [], [], h⟩
def ref20_Rank.l0 (J : Jn (AEnd × H)) (m0 : Nat) (x0 x1 x5 x6 : AV) (h : H) : Option (AEnd × H) := J [1, 1, 0, 1, 0] [m0] ⟨[(0, x0), (1, x1), (5, x5), (6, x6)], [(0, 0), (1, 0), (5, 0), (6, 0)], [], h⟩
def ref20_Rank.j0 (J : Jn (AEnd × H)) (m0 : Nat) (x0 x1 x5 x6 x46 : AV) (h : H) : Option (AEnd × H) := J [1, 1, 0, 1, 0, 0, 1, 0, 0, 1, 1] [m0] ⟨[(0, x0), (1, x1), (5, x5), (6, x6), (46, x46)], [(0, 0), (1, 0), (5, 0), (6, 0), (46, 0)], [], h⟩
theorem ref20_Rank.f_eq {call : Cl} {n : Nat} {J : Jn (AEnd × H)} (hJ : ref20_Rank.F call n J) (x0 x1 : AV) (h : H) : ref20_Rank.f J x0 x1 h =
  ref20_Rank.l0 J n x0 x1 (.int .i64 0) (.int .i64 0) h := (hJ _ _ _ (by kernel_rfl)).trans (by kernel_rfl)
theorem ref20_Rank.l0_eq {call : Cl} {n : Nat} {J : Jn (AEnd × H)} (hJ : ref20_Rank.F call n J) (m0 : Nat) (x0 x1 x5 x6 : AV) (h : H) : ref20_Rank.l0 J (m0 + 1) x0 x1 x5 x6 h =
  (lnSl x0).bind fun v1 =>
  (bin .lss x6 v1).bind fun v2 =>
  condV v2 (
    (ixSlice 6 x0 x6).bind fun v3 =>
    (ldAgg 6 h v3).bind fun v4 =>
    (ixSlice 6 x0 x1).bind fun v5 =>
    (ldAgg 6 h v5).bind fun v6 =>
    (call n_warrantorref17_Cmp [AV.canon v4, AV.canon v6] h).bind fun p7 => retOr p7.1 (fun _ => none) fun r8 =>
    (bin .lss r8 (.int .i64 0)).bind fun v9 =>
    condV v9 (
      (ixSlice 6 x0 x6).bind fun v10 =>
      (ldAgg 6 p7.2 v10).bind fun v11 =>
      (call n_warrantorref20_key [AV.canon v11] p7.2).bind fun p12 => retOr p12.1 (fun _ => none) fun r13 =>
      (ixSlice 6 x0 x1).bind fun v14 =>
      (ldAgg 6 p12.2 v14).bind fun v15 =>
      (call n_warrantorref20_key [AV.canon v15] p12.2).bind fun p16 => retOr p16.1 (fun _ => none) fun r17 =>
      (bin .eql r13 r17).bind fun v18 =>
      ref20_Rank.j0 J m0 x0 x1 x5 x6 v18 p16.2) (
      (bin .eql r8 (.int .i64 0)).bind fun v19 =>
      condV v19 (
        (bin .lss x6 x1).bind fun v20 =>
        condV v20 (
          (ixSlice 6 x0 x6).bind fun v21 =>
          (ldAgg 6 p7.2 v21).bind fun v22 =>
          (call n_warrantorref20_key [AV.canon v22] p7.2).bind fun p23 => retOr p23.1 (fun _ => none) fun r24 =>
          (ixSlice 6 x0 x1).bind fun v25 =>
          (ldAgg 6 p23.2 v25).bind fun v26 =>
          (call n_warrantorref20_key [AV.canon v26] p23.2).bind fun p27 => retOr p27.1 (fun _ => none) fun r28 =>
          (bin .eql r24 r28).bind fun v29 =>
          ref20_Rank.j0 J m0 x0 x1 x5 x6 v29 p27.2) (
          ref20_Rank.j0 J m0 x0 x1 x5 x6 (.bool false) p7.2)) (
        ref20_Rank.j0 J m0 x0 x1 x5 x6 (.bool false) p7.2))) (
    some (AEnd.ret (AV.copy x5), h)) := (hJ _ _ _ (by kernel_rfl)).trans (by kernel_rfl)
theorem ref20_Rank.j0_eq {call : Cl} {n : Nat} {J : Jn (AEnd × H)} (hJ : ref20_Rank.F call n J) (m0 : Nat) (x0 x1 x5 x6 x46 : AV) (h : H) : ref20_Rank.j0 J m0 x0 x1 x5 x6 x46 h =
  condV x46 (
    (bin .add x5 (.int .i64 1)).bind fun v30 =>
    (bin .add x6 (.int .i64 1)).bind fun v31 =>
    ref20_Rank.l0 J m0 x0 x1 v30 v31 h) (
    (bin .add x6 (.int .i64 1)).bind fun v32 =>
    ref20_Rank.l0 J m0 x0 x1 x5 v32 h) := (hJ _ _ _ (by kernel_rfl)).trans (by kernel_rfl)
noncomputable def finger_One.A : FAnn := { nv := 4, mv := [(1, 3)], ld := [], lst := [], obj := [], q := [], raw := [] }
noncomputable def finger_One.an : Ann := .nil
noncomputable abbrev finger_One.c : Code := Try.f12.body.getD .skip
noncomputable def finger_One.J (call : Cl) (n : Nat) : Jn (AEnd × H) := realJ Try.prog finger_One.A call Try.f12 finger_One.an finger_One.c n
abbrev finger_One.F (call : Cl) (n : Nat) (J : Jn (AEnd × H)) : Prop := JFix Try.prog finger_One.A call Try.f12 finger_One.an finger_One.c n J
def finger_One.f (J : Jn (AEnd × H)) (x0 x1 : AV) (h : H) : Option (AEnd × H) := J [] [] ⟨[(0, x0), (1, x1)], [], [], h⟩
theorem finger_One.f_eq {call : Cl} {n : Nat} {J : Jn (AEnd × H)} (hJ : finger_One.F call n J) (x0 x1 : AV) (h : H) : finger_One.f J x0 x1 h =
  (bx h (AV.copy x0)).bind fun p1 =>
  (ldAgg 6 p1.2 p1.1).bind fun v2 =>
  (call n_finger_key [AV.canon v2] p1.2).bind fun p3 => retOr p3.1 (fun r4p => some (AEnd.pan r4p, p3.2)) fun r4 =>
  (call n_fnv_Sum [AV.canon r4] p3.2).bind fun p5 => retOr p5.1 (fun r6p => some (AEnd.pan r6p, p5.2)) fun r6 =>
  (maxMinAll true [x1, .int .i64 0]).bind fun v7 =>
  (cvInt .u64 v7).bind fun v8 =>
  (call n_leb_Put [AV.canon v8] p5.2).bind fun p9 => retOr p9.1 (fun r10p => some (AEnd.pan r10p, p9.2)) fun r10 =>
  (call n_fnv_More [AV.canon r6, AV.canon r10] p9.2).bind fun p11 => retOr p11.1 (fun r12p => some (AEnd.pan r12p, p11.2)) fun r12 =>
  some (AEnd.ret r12, p11.2) := (hJ _ _ _ (by kernel_rfl)).trans (by kernel_rfl)
noncomputable def ref20_One.A : FAnn := { nv := 4, mv := [(3, 3)], ld := [], lst := [], obj := [], q := [], raw := [] }
noncomputable def ref20_One.an : Ann := .mk none .nil (.mk none .nil (.mk (some [(1, 0), (2, 0)]) .nil .nil))
noncomputable abbrev ref20_One.c : Code := Try.f13.body.getD .skip
noncomputable def ref20_One.J (call : Cl) (n : Nat) : Jn (AEnd × H) := realJ Try.prog ref20_One.A call Try.f13 ref20_One.an ref20_One.c n
abbrev ref20_One.F (call : Cl) (n : Nat) (J : Jn (AEnd × H)) : Prop := JFix Try.prog ref20_One.A call Try.f13 ref20_One.an ref20_One.c n J
def ref20_One.f (J : Jn (AEnd × H)) (x0 x1 : AV) (h : H) : Option (AEnd × H) := J [] [] ⟨[(0, x0), (1, x1)], [], [], h⟩
def ref20_One.j0 (J : Jn (AEnd × H)) (x1 x2 : AV) (h : H) : Option (AEnd × H) := J [1, 1] [] ⟨[(1, x1), (2, x2)], [(1, 0), (2, 0)], [], h⟩
theorem ref20_One.f_eq {call : Cl} {n : Nat} {J : Jn (AEnd × H)} (hJ : ref20_One.F call n J) (x0 x1 : AV) (h : H) : ref20_One.f J x0 x1 h =
  (bx h (AV.copy x0)).bind fun p1 =>
  (bin .lss x1 (.int .i64 0)).bind fun v2 =>
  condV v2 (
    ref20_One.j0 J  (.int .i64 0) p1.1 p1.2) (
    ref20_One.j0 J  x1 p1.1 p1.2) := (hJ _ _ _ (by kernel_rfl)).trans (by kernel_rfl)
theorem ref20_One.j0_eq {call : Cl} {n : Nat} {J : Jn (AEnd × H)} (hJ : ref20_One.F call n J) (x1 x2 : AV) (h : H) : ref20_One.j0 J  x1 x2 h =
  (ldAgg 6 h x2).bind fun v3 =>
  (call n_warrantorref20_key [AV.canon v3] h).bind fun p4 => retOr p4.1 (fun r5p => some (AEnd.pan r5p, p4.2)) fun r5 =>
  (strBytes r5).bind fun v6 =>
  (call n_warrantorref02_Num [AV.canon x1] p4.2).bind fun p7 => retOr p7.1 (fun r8p => some (AEnd.pan r8p, p7.2)) fun r8 =>
  (apSlice 1 1 true true p7.2 v6 r8).bind fun v9 =>
  (call n_warrantorref19_Sum [AV.canon v9] p7.2).bind fun p10 => retOr p10.1 (fun r11p => some (AEnd.pan r11p, p10.2)) fun r11 =>
  some (AEnd.ret r11, p10.2) := (hJ _ _ _ (by kernel_rfl)).trans (by kernel_rfl)
noncomputable def ref10_Same.A : FAnn := { nv := 7, mv := [(5, 0), (10, 0)], ld := [], lst := [], obj := [], q := [], raw := [] }
noncomputable def ref10_Same.an : Ann := .mk none .nil (.mk none (.mk none .nil (.mk (some [(2, 0), (3, 0), (22, 0)]) .nil .nil)) (.mk (some [(2, 0), (3, 0)]) (.mk none .nil (.mk none (.mk none (.mk (some [(2, 0), (3, 0), (5, 0)]) .nil .nil) .nil) .nil)) (.mk none (.mk none .nil (.mk none (.mk none (.mk (some [(2, 0), (3, 0), (6, 0)]) .nil .nil) .nil) .nil)) .nil)))
noncomputable abbrev ref10_Same.c : Code := Try.f14.body.getD .skip
noncomputable def ref10_Same.J (call : Cl) (n : Nat) : Jn (AEnd × H) := realJ Try.prog ref10_Same.A call Try.f14 ref10_Same.an ref10_Same.c n
abbrev ref10_Same.F (call : Cl) (n : Nat) (J : Jn (AEnd × H)) : Prop := JFix Try.prog ref10_Same.A call Try.f14 ref10_Same.an ref10_Same.c n J
def ref10_Same.f (J : Jn (AEnd × H)) (x0 x1 : AV) (h : H) : Option (AEnd × H) := J [] [] ⟨[(0, x0), (1, x1)], [], [], h⟩
def ref10_Same.j1 (J : Jn (AEnd × H)) (x2 x3 x22 : AV) (h : H) : Option (AEnd × H) := J [1, 0, 1] [] ⟨[(2, x2), (3, x3), (22, x22)], [(2, 0), (3, 0), (22, 0)], [], h⟩
def ref10_Same.j0 (J : Jn (AEnd × H)) (x2 x3 : AV) (h : H) : Option (AEnd × H) := J [1, 1] [] ⟨[(2, x2), (3, x3)], [(2, 0), (3, 0)], [], h⟩
def ref10_Same.l0 (J : Jn (AEnd × H)) (m0 : Nat) (x2 x3 x5 : AV) (h : H) : Option (AEnd × H) := J [1, 1, 0, 1, 0] [m0] ⟨[(2, x2), (3, x3), (5, x5)], [(2, 0), (3, 0), (5, 0)], [], h⟩
def ref10_Same.l1 (J : Jn (AEnd × H)) (m0 : Nat) (x2 x3 x6 : AV) (h : H) : Option (AEnd × H) := J [1, 1, 1, 0, 1, 0] [m0] ⟨[(2, x2), (3, x3), (6, x6)], [(2, 0), (3, 0), (6, 0)], [], h⟩
theorem ref10_Same.f_eq {call : Cl} {n : Nat} {J : Jn (AEnd × H)} (hJ : ref10_Same.F call n J) (x0 x1 : AV) (h : H) : ref10_Same.f J x0 x1 h =
  (bx h (AV.copy x0)).bind fun p1 =>
  (bx p1.2 (AV.copy x1)).bind fun p2 =>
  (fAddr 0 p1.1).bind fun v3 =>
  (ldCell p2.2 v3).bind fun v4 =>
  (lnSl v4).bind fun v5 =>
  (fAddr 0 p2.1).bind fun v6 =>
  (ldCell p2.2 v6).bind fun v7 =>
  (lnSl v7).bind fun v8 =>
  (bin .neq v5 v8).bind fun v9 =>
  condV v9 (
    ref10_Same.j1 J  p1.1 p2.1 (.bool true) p2.2) (
    (fAddr 1 p1.1).bind fun v10 =>
    (ldCell p2.2 v10).bind fun v11 =>
    (lnSl v11).bind fun v12 =>
    (fAddr 1 p2.1).bind fun v13 =>
    (ldCell p2.2 v13).bind fun v14 =>
    (lnSl v14).bind fun v15 =>
    (bin .neq v12 v15).bind fun v16 =>
    ref10_Same.j1 J  p1.1 p2.1 v16 p2.2) := (hJ _ _ _ (by kernel_rfl)).trans (by kernel_rfl)
theorem ref10_Same.j1_eq {call : Cl} {n : Nat} {J : Jn (AEnd × H)} (hJ : ref10_Same.F call n J) (x2 x3 x22 : AV) (h : H) : ref10_Same.j1 J  x2 x3 x22 h =
  condV x22 (
    some (AEnd.ret (.bool false), h)) (
    ref10_Same.j0 J  x2 x3 h) := (hJ _ _ _ (by kernel_rfl)).trans (by kernel_rfl)
theorem ref10_Same.j0_eq {call : Cl} {n : Nat} {J : Jn (AEnd × H)} (hJ : ref10_Same.F call n J) (x2 x3 : AV) (h : H) : ref10_Same.j0 J  x2 x3 h =
  ref10_Same.l0 J n x2 x3 (.int .i64 0) h := (hJ _ _ _ (by kernel_rfl)).trans (by kernel_rfl)
theorem ref10_Same.l0_eq {call : Cl} {n : Nat} {J : Jn (AEnd × H)} (hJ : ref10_Same.F call n J) (m0 : Nat) (x2 x3 x5 : AV) (h : H) : ref10_Same.l0 J (m0 + 1) x2 x3 x5 h =
  (fAddr 0 x2).bind fun v17 =>
  (ldCell h v17).bind fun v18 =>
  (lnSl v18).bind fun v19 =>
  (bin .lss x5 v19).bind fun v20 =>
  condV v20 (
    (fAddr 0 x2).bind fun v21 =>
    (ldCell h v21).bind fun v22 =>
    (ixSlice 1 v22 x5).bind fun v23 =>
    (ldCell h v23).bind fun v24 =>
    (fAddr 0 x3).bind fun v25 =>
    (ldCell h v25).bind fun v26 =>
    (ixSlice 1 v26 x5).bind fun v27 =>
    (ldCell h v27).bind fun v28 =>
    (bin .neq v24 v28).bind fun v29 =>
    condV v29 (
      some (AEnd.ret (.bool false), h)) (
      (bin .add x5 (.int .i64 1)).bind fun v30 =>
      ref10_Same.l0 J m0 x2 x3 v30 h)) (
    ref10_Same.l1 J n x2 x3 (.int .i64 0) h) := (hJ _ _ _ (by kernel_rfl)).trans (by kernel_rfl)
theorem ref10_Same.l1_eq {call : Cl} {n : Nat} {J : Jn (AEnd × H)} (hJ : ref10_Same.F call n J) (m0 : Nat) (x2 x3 x6 : AV) (h : H) : ref10_Same.l1 J (m0 + 1) x2 x3 x6 h =
  (fAddr 1 x2).bind fun v31 =>
  (ldCell h v31).bind fun v32 =>
  (lnSl v32).bind fun v33 =>
  (bin .lss x6 v33).bind fun v34 =>
  condV v34 (
    (fAddr 1 x2).bind fun v35 =>
    (ldCell h v35).bind fun v36 =>
    (ixSlice 1 v36 x6).bind fun v37 =>
    (ldCell h v37).bind fun v38 =>
    (fAddr 1 x3).bind fun v39 =>
    (ldCell h v39).bind fun v40 =>
    (ixSlice 1 v40 x6).bind fun v41 =>
    (ldCell h v41).bind fun v42 =>
    (bin .neq v38 v42).bind fun v43 =>
    condV v43 (
      some (AEnd.ret (.bool false), h)) (
      (bin .add x6 (.int .i64 1)).bind fun v44 =>
      ref10_Same.l1 J m0 x2 x3 v44 h)) (
    some (AEnd.ret (.bool true), h)) := (hJ _ _ _ (by kernel_rfl)).trans (by kernel_rfl)
noncomputable def finger_Ranks.A : FAnn := { nv := 10, mv := [(5, 2), (10, 0), (14, 1), (15, 1), (17, 0)], ld := [], lst := [], obj := [], q := [], raw := [] }
noncomputable def finger_Ranks.an : Ann := .mk none .nil (.mk none .nil (.mk none (.mk none .nil (.mk none (.mk none (.mk (some [(1, 0), (3, 255), (14, 0), (15, 0)]) .nil .nil) .nil) .nil)) (.mk none .nil (.mk none .nil (.mk none .nil (.mk none (.mk none .nil (.mk none (.mk none (.mk (some [(1, 0), (5, 255), (6, 0), (30, 255), (31, 0), (32, 0)]) .nil .nil) .nil) .nil)) .nil))))))
noncomputable abbrev finger_Ranks.c : Code := Try.f15.body.getD .skip
noncomputable def finger_Ranks.J (call : Cl) (n : Nat) : Jn (AEnd × H) := realJ Try.prog finger_Ranks.A call Try.f15 finger_Ranks.an finger_Ranks.c n
abbrev finger_Ranks.F (call : Cl) (n : Nat) (J : Jn (AEnd × H)) : Prop := JFix Try.prog finger_Ranks.A call Try.f15 finger_Ranks.an finger_Ranks.c n J
def finger_Ranks.f (J : Jn (AEnd × H)) (x0 : AV) (h : H) : Option (AEnd × H) := J [] [] ⟨[(0, x0)], [], [], h⟩
def finger_Ranks.l0 (J : Jn (AEnd × H)) (m0 : Nat) (x1 x3 x14 x15 : AV) (h : H) : Option (AEnd × H) := J [1, 1, 0, 1, 0] [m0] ⟨[(1, x1), (3, x3), (14, x14), (15, x15)], [(1, 0), (3, 255), (14, 0), (15, 0)], [], h⟩
def finger_Ranks.l1 (J : Jn (AEnd × H)) (m0 : Nat) (x1 x5 x6 x30 x31 x32 : AV) (h : H) : Option (AEnd × H) := J [1, 1, 1, 1, 1, 1, 0, 1, 0] [m0] ⟨[(1, x1), (5, x5), (6, x6), (30, x30), (31, x31), (32, x32)], [(1, 0), (5, 255), (6, 0), (30, 255), (31, 0), (32, 0)], [], h⟩
theorem finger_Ranks.f_eq {call : Cl} {n : Nat} {J : Jn (AEnd × H)} (hJ : finger_Ranks.F call n J) (x0 : AV) (h : H) : finger_Ranks.f J x0 h =
  (bx h (AV.copy x0)).bind fun p1 =>
  (ldCell p1.2 p1.1).bind fun v2 =>
  (lnSl v2).bind fun v3 =>
  (mkSlice 1 8 [.int .i64 0] false p1.2 v3 v3).bind fun p4 =>
  (ldCell p4.2 p1.1).bind fun v5 =>
  (lnSl v5).bind fun v6 =>
  finger_Ranks.l0 J n p1.1 p4.1 v6 (.int .i64 0) p4.2 := (hJ _ _ _ (by kernel_rfl)).trans (by kernel_rfl)
theorem finger_Ranks.l0_eq {call : Cl} {n : Nat} {J : Jn (AEnd × H)} (hJ : finger_Ranks.F call n J) (m0 : Nat) (x1 x3 x14 x15 : AV) (h : H) : finger_Ranks.l0 J (m0 + 1) x1 x3 x14 x15 h =
  (bin .lss x15 x14).bind fun v7 =>
  condV v7 (
    (ixSlice 1 x3 x15).bind fun v8 =>
    (stN 1 h v8 (AV.copy x15)).bind fun p9 =>
    (bin .add x15 (.int .i64 1)).bind fun v10 =>
    finger_Ranks.l0 J m0 x1 x3 x14 v10 p9.2) (
    (call n_slices_SortStableFunc_int_int [AV.canon x3, AV.canon (.func (.func n_finger_Ranks_c1) [] [AV.copy x1])] h).bind fun p11 => retOr p11.1 (fun r12p => some (AEnd.pan r12p, p11.2)) fun r12 =>
    (ldCell p11.2 x1).bind fun v13 =>
    (lnSl v13).bind fun v14 =>
    (mkSlice 1 8 [.int .i64 0] false p11.2 v14 v14).bind fun p15 =>
    let h16 : H := p15.2 ++ [.map []]
    (lnSl x3).bind fun v17 =>
    finger_Ranks.l1 J n x1 p15.1 (.map p15.2.length) x3 v17 (.int .i64 0) h16) := (hJ _ _ _ (by kernel_rfl)).trans (by kernel_rfl)
theorem finger_Ranks.l1_eq {call : Cl} {n : Nat} {J : Jn (AEnd × H)} (hJ : finger_Ranks.F call n J) (m0 : Nat) (x1 x5 x6 x30 x31 x32 : AV) (h : H) : finger_Ranks.l1 J (m0 + 1) x1 x5 x6 x30 x31 x32 h =
  (bin .lss x32 x31).bind fun v18 =>
  condV v18 (
    (ixSlice 1 x30 x32).bind fun v19 =>
    (ldCell h v19).bind fun v20 =>
    (ldCell h x1).bind fun v21 =>
    (ixSlice 6 v21 v20).bind fun v22 =>
    (ldAgg 6 h v22).bind fun v23 =>
    (call n_finger_key [AV.canon v23] h).bind fun p24 => retOr p24.1 (fun r25p => some (AEnd.pan r25p, p24.2)) fun r25 =>
    (bytesStr p24.2 r25).bind fun v26 =>
    (lkMap .str (.int .i64 0) p24.2 x6 v26 false).bind fun v27 =>
    (ixSlice 1 x5 v20).bind fun v28 =>
    (stN 1 p24.2 v28 (AV.copy v27)).bind fun p29 =>
    (lkMap .str (.int .i64 0) p29.2 x6 v26 false).bind fun v30 =>
    (bin .add v30 (.int .i64 1)).bind fun v31 =>
    (upMap .str p29.2 x6 v26 v31).bind fun p32 =>
    (bin .add x32 (.int .i64 1)).bind fun v33 =>
    finger_Ranks.l1 J m0 x1 x5 x6 x30 x31 v33 p32.2) (
    some (AEnd.ret x5, h)) := (hJ _ _ _ (by kernel_rfl)).trans (by kernel_rfl)
noncomputable def ref20_Same.A : FAnn := { nv := 6, mv := [(5, 0)], ld := [], lst := [], obj := [], q := [], raw := [] }
noncomputable def ref20_Same.an : Ann := .mk none .nil (.mk none .nil (.mk none (.mk none .nil (.mk none (.mk none (.mk (some [(0, 0), (1, 0), (5, 0)]) .nil .nil) .nil) .nil)) .nil))
noncomputable abbrev ref20_Same.c : Code := Try.f16.body.getD .skip
noncomputable def ref20_Same.J (call : Cl) (n : Nat) : Jn (AEnd × H) := realJ Try.prog ref20_Same.A call Try.f16 ref20_Same.an ref20_Same.c n
abbrev ref20_Same.F (call : Cl) (n : Nat) (J : Jn (AEnd × H)) : Prop := JFix Try.prog ref20_Same.A call Try.f16 ref20_Same.an ref20_Same.c n J
def ref20_Same.f (J : Jn (AEnd × H)) (x0 x1 : AV) (h : H) : Option (AEnd × H) := J [] [] ⟨[(0, x0), (1, x1)], [], [], h⟩
def ref20_Same.l0 (J : Jn (AEnd × H)) (m0 : Nat) (x0 x1 x5 : AV) (h : H) : Option (AEnd × H) := J [1, 1, 0, 1, 0] [m0] ⟨[(0, x0), (1, x1), (5, x5)], [(0, 0), (1, 0), (5, 0)], [], h⟩
theorem ref20_Same.f_eq {call : Cl} {n : Nat} {J : Jn (AEnd × H)} (hJ : ref20_Same.F call n J) (x0 x1 : AV) (h : H) : ref20_Same.f J x0 x1 h =
  (lnSl x0).bind fun v1 =>
  (lnSl x1).bind fun v2 =>
  (bin .neq v1 v2).bind fun v3 =>
  condV v3 (
    some (AEnd.ret (.bool false), h)) (
    ref20_Same.l0 J n x0 x1 (.int .i64 0) h) := (hJ _ _ _ (by kernel_rfl)).trans (by kernel_rfl)
theorem ref20_Same.l0_eq {call : Cl} {n : Nat} {J : Jn (AEnd × H)} (hJ : ref20_Same.F call n J) (m0 : Nat) (x0 x1 x5 : AV) (h : H) : ref20_Same.l0 J (m0 + 1) x0 x1 x5 h =
  (lnSl x0).bind fun v4 =>
  (bin .lss x5 v4).bind fun v5 =>
  condV v5 (
    (ixSlice 1 x0 x5).bind fun v6 =>
    (ldCell h v6).bind fun v7 =>
    (ixSlice 1 x1 x5).bind fun v8 =>
    (ldCell h v8).bind fun v9 =>
    (bin .neq v7 v9).bind fun v10 =>
    condV v10 (
      some (AEnd.ret (.bool false), h)) (
      (bin .add x5 (.int .i64 1)).bind fun v11 =>
      ref20_Same.l0 J m0 x0 x1 v11 h)) (
    some (AEnd.ret (.bool true), h)) := (hJ _ _ _ (by kernel_rfl)).trans (by kernel_rfl)
noncomputable def finger_Of.A : FAnn := { nv := 6, mv := [(5, 0), (5, 2), (5, 5), (7, 0)], ld := [], lst := [], obj := [], q := [], raw := [] }
noncomputable def finger_Of.an : Ann := .mk none .nil (.mk none .nil (.mk none (.mk none .nil (.mk none (.mk none (.mk (some [(0, 0), (3, 255), (7, 255), (8, 0), (9, 0)]) .nil .nil) .nil) .nil)) .nil))
noncomputable abbrev finger_Of.c : Code := Try.f17.body.getD .skip
noncomputable def finger_Of.J (call : Cl) (n : Nat) : Jn (AEnd × H) := realJ Try.prog finger_Of.A call Try.f17 finger_Of.an finger_Of.c n
abbrev finger_Of.F (call : Cl) (n : Nat) (J : Jn (AEnd × H)) : Prop := JFix Try.prog finger_Of.A call Try.f17 finger_Of.an finger_Of.c n J
def finger_Of.f (J : Jn (AEnd × H)) (x0 : AV) (h : H) : Option (AEnd × H) := J [] [] ⟨[(0, x0)], [], [], h⟩
def finger_Of.l0 (J : Jn (AEnd × H)) (m0 : Nat) (x0 x3 x7 x8 x9 : AV) (h : H) : Option (AEnd × H) := J [1, 1, 0, 1, 0] [m0] ⟨[(0, x0), (3, x3), (7, x7), (8, x8), (9, x9)], [(0, 0), (3, 255), (7, 255), (8, 0), (9, 0)], [], h⟩
theorem finger_Of.f_eq {call : Cl} {n : Nat} {J : Jn (AEnd × H)} (hJ : finger_Of.F call n J) (x0 : AV) (h : H) : finger_Of.f J x0 h =
  (call n_finger_Ranks [AV.canon x0] h).bind fun p1 => retOr p1.1 (fun r2p => some (AEnd.pan r2p, p1.2)) fun r2 =>
  (lnSl r2).bind fun v3 =>
  finger_Of.l0 J n x0 (.list [] .cap) r2 v3 (.int .i64 0) p1.2 := (hJ _ _ _ (by kernel_rfl)).trans (by kernel_rfl)
theorem finger_Of.l0_eq {call : Cl} {n : Nat} {J : Jn (AEnd × H)} (hJ : finger_Of.F call n J) (m0 : Nat) (x0 x3 x7 x8 x9 : AV) (h : H) : finger_Of.l0 J (m0 + 1) x0 x3 x7 x8 x9 h =
  (bin .lss x9 x8).bind fun v4 =>
  condV v4 (
    (ixSlice 1 x7 x9).bind fun v5 =>
    (ldCell h v5).bind fun v6 =>
    (ixSlice 6 x0 x9).bind fun v7 =>
    (ldAgg 6 h v7).bind fun v8 =>
    (call n_finger_One [AV.canon v8, AV.canon v6] h).bind fun p9 => retOr p9.1 (fun r10p => some (AEnd.pan r10p, p9.2)) fun r10 =>
    (mkRows 1 [.int .u64 0] 1 [(0, r10)]).bind fun v11 =>
    (apSlice 1 8 false true p9.2 x3 v11).bind fun v12 =>
    (bin .add x9 (.int .i64 1)).bind fun v13 =>
    finger_Of.l0 J m0 x0 v12 x7 x8 v13 p9.2) (
    some (AEnd.ret x3, h)) := (hJ _ _ _ (by kernel_rfl)).trans (by kernel_rfl)
noncomputable def ref20_Of.A : FAnn := { nv := 5, mv := [(4, 0), (5, 0), (6, 0)], ld := [], lst := [], obj := [], q := [11, 13], raw := [] }
noncomputable def ref20_Of.an : Ann := .mk none .nil (.mk none .nil (.mk none (.mk none .nil (.mk none (.mk none (.mk (some [(0, 0), (3, 255), (4, 0)]) .nil .nil) .nil) .nil)) .nil))
noncomputable abbrev ref20_Of.c : Code := Try.f18.body.getD .skip
noncomputable def ref20_Of.J (call : Cl) (n : Nat) : Jn (AEnd × H) := realJ Try.prog ref20_Of.A call Try.f18 ref20_Of.an ref20_Of.c n
abbrev ref20_Of.F (call : Cl) (n : Nat) (J : Jn (AEnd × H)) : Prop := JFix Try.prog ref20_Of.A call Try.f18 ref20_Of.an ref20_Of.c n J
def ref20_Of.f (J : Jn (AEnd × H)) (x0 : AV) (h : H) : Option (AEnd × H) := J [] [] ⟨[(0, x0)], [], [], h⟩
def ref20_Of.l0 (J : Jn (AEnd × H)) (m0 : Nat) (x0 x3 x4 : AV) (h : H) : Option (AEnd × H) := J [1, 1, 0, 1, 0] [m0] ⟨[(0, x0), (3, x3), (4, x4)], [(0, 0), (3, 255), (4, 0)], [], h⟩
theorem ref20_Of.f_eq {call : Cl} {n : Nat} {J : Jn (AEnd × H)} (hJ : ref20_Of.F call n J) (x0 : AV) (h : H) : ref20_Of.f J x0 h =
  ref20_Of.l0 J n x0 (.list [] .cap) (.int .i64 0) h := (hJ _ _ _ (by kernel_rfl)).trans (by kernel_rfl)
theorem ref20_Of.l0_eq {call : Cl} {n : Nat} {J : Jn (AEnd × H)} (hJ : ref20_Of.F call n J) (m0 : Nat) (x0 x3 x4 : AV) (h : H) : ref20_Of.l0 J (m0 + 1) x0 x3 x4 h =
  (lnSl x0).bind fun v1 =>
  (bin .lss x4 v1).bind fun v2 =>
  condV v2 (
    (ixSlice 6 x0 x4).bind fun v3 =>
    (ldAgg 6 h v3).bind fun v4 =>
    (call n_warrantorref20_Rank [AV.canon x0, AV.canon x4] h).bind fun p5 => retOr p5.1 (fun _ => none) fun r6 =>
    (call n_warrantorref20_One [AV.canon v4, AV.canon r6] p5.2).bind fun p7 => retOr p7.1 (fun _ => none) fun r8 =>
    (mkRows 1 [.int .u64 0] 1 [(0, r8)]).bind fun v9 =>
    (apSlice 1 8 false true p7.2 x3 v9).bind fun v10 =>
    (bin .add x4 (.int .i64 1)).bind fun v11 =>
    ref20_Of.l0 J m0 x0 v10 v11 p7.2) (
    some (AEnd.ret x3, h)) := (hJ _ _ _ (by kernel_rfl)).trans (by kernel_rfl)
noncomputable def ref20_Sorted.A : FAnn := { nv := 7, mv := [(4, 0), (7, 0), (9, 0), (9, 2), (9, 10), (10, 0)], ld := [], lst := [], obj := [], q := [], raw := [] }
noncomputable def ref20_Sorted.an : Ann := .mk none .nil (.mk none .nil (.mk none (.mk none .nil (.mk none (.mk none (.mk (some [(0, 0), (3, 255), (4, 0)]) .nil (.mk none (.mk none (.mk none .nil (.mk none (.mk none (.mk none (.mk (some [(0, 0), (3, 255), (4, 0), (5, 0)]) .nil .nil) .nil) .nil) .nil)) .nil) .nil)) .nil) .nil)) .nil))
noncomputable abbrev ref20_Sorted.c : Code := Try.f19.body.getD .skip
noncomputable def ref20_Sorted.J (call : Cl) (n : Nat) : Jn (AEnd × H) := realJ Try.prog ref20_Sorted.A call Try.f19 ref20_Sorted.an ref20_Sorted.c n
abbrev ref20_Sorted.F (call : Cl) (n : Nat) (J : Jn (AEnd × H)) : Prop := JFix Try.prog ref20_Sorted.A call Try.f19 ref20_Sorted.an ref20_Sorted.c n J
def ref20_Sorted.f (J : Jn (AEnd × H)) (x0 : AV) (h : H) : Option (AEnd × H) := J [] [] ⟨[(0, x0)], [], [], h⟩
def ref20_Sorted.l0 (J : Jn (AEnd × H)) (m0 : Nat) (x0 x3 x4 : AV) (h : H) : Option (AEnd × H) := J [1, 1, 0, 1, 0] [m0] ⟨[(0, x0), (3, x3), (4, x4)], [(0, 0), (3, 255), (4, 0)], [], h⟩
def ref20_Sorted.l1 (J : Jn (AEnd × H)) (m0 m1 : Nat) (x0 x3 x4 x5 : AV) (h : H) : Option (AEnd × H) := J [1, 1, 0, 1, 0, 0, 1, 0, 0, 1, 0, 0] [m0, m1] ⟨[(0, x0), (3, x3), (4, x4), (5, x5)], [(0, 0), (3, 255), (4, 0), (5, 0)], [], h⟩
theorem ref20_Sorted.f_eq {call : Cl} {n : Nat} {J : Jn (AEnd × H)} (hJ : ref20_Sorted.F call n J) (x0 : AV) (h : H) : ref20_Sorted.f J x0 h =
  ref20_Sorted.l0 J n x0 (.list [] .cap) (.int .i64 0) h := (hJ _ _ _ (by kernel_rfl)).trans (by kernel_rfl)
theorem ref20_Sorted.l0_eq {call : Cl} {n : Nat} {J : Jn (AEnd × H)} (hJ : ref20_Sorted.F call n J) (m0 : Nat) (x0 x3 x4 : AV) (h : H) : ref20_Sorted.l0 J (m0 + 1) x0 x3 x4 h =
  (lnSl x0).bind fun v1 =>
  (bin .lss x4 v1).bind fun v2 =>
  condV v2 (
    (lnSl x3).bind fun v3 =>
    ref20_Sorted.l1 J m0 n x0 x3 x4 v3 h) (
    some (AEnd.ret x3, h)) := (hJ _ _ _ (by kernel_rfl)).trans (by kernel_rfl)
theorem ref20_Sorted.l1_eq {call : Cl} {n : Nat} {J : Jn (AEnd × H)} (hJ : ref20_Sorted.F call n J) (m0 m1 : Nat) (x0 x3 x4 x5 : AV) (h : H) : ref20_Sorted.l1 J m0 (m1 + 1) x0 x3 x4 x5 h =
  (bin .gtr x5 (.int .i64 0)).bind fun v4 =>
  condV v4 (
    (bin .sub x5 (.int .i64 1)).bind fun v5 =>
    (ixSlice 1 x3 v5).bind fun v6 =>
    (ldCell h v6).bind fun v7 =>
    (ixSlice 1 x0 x4).bind fun v8 =>
    (ldCell h v8).bind fun v9 =>
    (bin .gtr v7 v9).bind fun v10 =>
    condV v10 (
      (bin .sub x5 (.int .i64 1)).bind fun v11 =>
      ref20_Sorted.l1 J m0 m1 x0 x3 x4 v11 h) (
      (mkRows 1 [.int .u64 0] 0 []).bind fun v12 =>
      (slSlice 1 x3 (some x5) none none).bind fun v13 =>
      (apSlice 1 8 false false h v12 v13).bind fun v14 =>
      (slSlice 1 x3 none (some x5) (some x5)).bind fun v15 =>
      (ixSlice 1 x0 x4).bind fun v16 =>
      (ldCell h v16).bind fun v17 =>
      (mkRows 1 [.int .u64 0] 1 [(0, v17)]).bind fun v18 =>
      (apSlice 1 8 false false h v15 v18).bind fun v19 =>
      (apSlice 1 8 false true h v19 v14).bind fun v20 =>
      (bin .add x4 (.int .i64 1)).bind fun v21 =>
      ref20_Sorted.l0 J m0 x0 v20 v21 h)) (
    (mkRows 1 [.int .u64 0] 0 []).bind fun v22 =>
    (slSlice 1 x3 (some x5) none none).bind fun v23 =>
    (apSlice 1 8 false false h v22 v23).bind fun v24 =>
    (slSlice 1 x3 none (some x5) (some x5)).bind fun v25 =>
    (ixSlice 1 x0 x4).bind fun v26 =>
    (ldCell h v26).bind fun v27 =>
    (mkRows 1 [.int .u64 0] 1 [(0, v27)]).bind fun v28 =>
    (apSlice 1 8 false false h v25 v28).bind fun v29 =>
    (apSlice 1 8 false true h v29 v24).bind fun v30 =>
    (bin .add x4 (.int .i64 1)).bind fun v31 =>
    ref20_Sorted.l0 J m0 x0 v30 v31 h) := (hJ _ _ _ (by kernel_rfl)).trans (by kernel_rfl)
noncomputable def ref18_Norm.A : FAnn := { nv := 8, mv := [(3, 0), (6, 0), (8, 0), (9, 0), (10, 0), (11, 0), (12, 0)], ld := [], lst := [], obj := [], q := [], raw := [] }
noncomputable def ref18_Norm.an : Ann := .mk none .nil (.mk none .nil (.mk none .nil (.mk none .nil (.mk none (.mk none .nil (.mk none (.mk none (.mk (some [(3, 0), (4, 255), (5, 255), (6, 0)]) .nil (.mk none (.mk none (.mk none .nil (.mk none (.mk none .nil (.mk (some [(3, 0), (5, 255), (6, 0), (7, 255), (25, 0)]) .nil .nil)) (.mk (some [(3, 0), (5, 255), (6, 0), (7, 255)]) .nil .nil))) .nil) .nil)) .nil) .nil)) .nil))))
noncomputable abbrev ref18_Norm.c : Code := Try.f20.body.getD .skip
noncomputable def ref18_Norm.J (call : Cl) (n : Nat) : Jn (AEnd × H) := realJ Try.prog ref18_Norm.A call Try.f20 ref18_Norm.an ref18_Norm.c n
abbrev ref18_Norm.F (call : Cl) (n : Nat) (J : Jn (AEnd × H)) : Prop := JFix Try.prog ref18_Norm.A call Try.f20 ref18_Norm.an ref18_Norm.c n J
def ref18_Norm.f (J : Jn (AEnd × H)) (x0 : AV) (h : H) : Option (AEnd × H) := J [] [] ⟨[(0, x0)], [], [], h⟩
def ref18_Norm.l0 (J : Jn (AEnd × H)) (m0 : Nat) (x3 x4 x5 x6 : AV) (h : H) : Option (AEnd × H) := J [1, 1, 1, 1, 0, 1, 0] [m0] ⟨[(3, x3), (4, x4), (5, x5), (6, x6)], [(3, 0), (4, 255), (5, 255), (6, 0)], [], h⟩
def ref18_Norm.j1 (J : Jn (AEnd × H)) (m0 : Nat) (x3 x5 x6 x7 x25 : AV) (h : H) : Option (AEnd × H) := J [1, 1, 1, 1, 0, 1, 0, 0, 1, 0, 0, 1, 0, 1] [m0] ⟨[(3, x3), (5, x5), (6, x6), (7, x7), (25, x25)], [(3, 0), (5, 255), (6, 0), (7, 255), (25, 0)], [], h⟩
def ref18_Norm.j0 (J : Jn (AEnd × H)) (m0 : Nat) (x3 x5 x6 x7 : AV) (h : H) : Option (AEnd × H) := J [1, 1, 1, 1, 0, 1, 0, 0, 1, 0, 0, 1, 1] [m0] ⟨[(3, x3), (5, x5), (6, x6), (7, x7)], [(3, 0), (5, 255), (6, 0), (7, 255)], [], h⟩
theorem ref18_Norm.f_eq {call : Cl} {n : Nat} {J : Jn (AEnd × H)} (hJ : ref18_Norm.F call n J) (x0 : AV) (h : H) : ref18_Norm.f J x0 h =
  (call n_warrantorref18_Parts [AV.canon x0] h).bind fun p1 => retOr p1.1 (fun r2p => some (AEnd.pan r2p, p1.2)) fun r2 =>
  ref18_Norm.l0 J n (.str []) (.bool false) r2 (.int .i64 0) p1.2 := (hJ _ _ _ (by kernel_rfl)).trans (by kernel_rfl)
theorem ref18_Norm.l0_eq {call : Cl} {n : Nat} {J : Jn (AEnd × H)} (hJ : ref18_Norm.F call n J) (m0 : Nat) (x3 x4 x5 x6 : AV) (h : H) : ref18_Norm.l0 J (m0 + 1) x3 x4 x5 x6 h =
  (lnSl x5).bind fun v3 =>
  (bin .lss x6 v3).bind fun v4 =>
  condV v4 (
    (ixSlice 1 x5 x6).bind fun v5 =>
    (ldCell h v5).bind fun v6 =>
    (ixStr v6 (.int .i64 0)).bind fun v7 =>
    (call n_warrantorref18_word [AV.canon v7] h).bind fun p8 => retOr p8.1 (fun r9p => some (AEnd.pan r9p, p8.2)) fun r9 =>
    condV x4 (
      ref18_Norm.j1 J m0 x3 x5 x6 r9 r9 p8.2) (
      ref18_Norm.j1 J m0 x3 x5 x6 r9 (.bool false) p8.2)) (
    some (AEnd.ret (AV.copy x3), h)) := (hJ _ _ _ (by kernel_rfl)).trans (by kernel_rfl)
theorem ref18_Norm.j1_eq {call : Cl} {n : Nat} {J : Jn (AEnd × H)} (hJ : ref18_Norm.F call n J) (m0 : Nat) (x3 x5 x6 x7 x25 : AV) (h : H) : ref18_Norm.j1 J m0 x3 x5 x6 x7 x25 h =
  condV x25 (
    (bin .add x3 (.str [32])).bind fun v10 =>
    ref18_Norm.j0 J m0 v10 x5 x6 x7 h) (
    ref18_Norm.j0 J m0 x3 x5 x6 x7 h) := (hJ _ _ _ (by kernel_rfl)).trans (by kernel_rfl)
theorem ref18_Norm.j0_eq {call : Cl} {n : Nat} {J : Jn (AEnd × H)} (hJ : ref18_Norm.F call n J) (m0 : Nat) (x3 x5 x6 x7 : AV) (h : H) : ref18_Norm.j0 J m0 x3 x5 x6 x7 h =
  (ixSlice 1 x5 x6).bind fun v11 =>
  (ldCell h v11).bind fun v12 =>
  (bin .add x3 v12).bind fun v13 =>
  (bin .add x6 (.int .i64 1)).bind fun v14 =>
  ref18_Norm.l0 J m0 v13 x7 x5 v14 h := (hJ _ _ _ (by kernel_rfl)).trans (by kernel_rfl)
noncomputable def ref25_Large.A : FAnn := { nv := 6, mv := [(1, 2), (5, 0)], ld := [], lst := [], obj := [], q := [], raw := [] }
noncomputable def ref25_Large.an : Ann := .mk none .nil (.mk none .nil (.mk none (.mk none .nil (.mk none (.mk none (.mk (some [(0, 0), (5, 0)]) .nil .nil) .nil) .nil)) .nil))
noncomputable abbrev ref25_Large.c : Code := Try.f21.body.getD .skip
noncomputable def ref25_Large.J (call : Cl) (n : Nat) : Jn (AEnd × H) := realJ Try.prog ref25_Large.A call Try.f21 ref25_Large.an ref25_Large.c n
abbrev ref25_Large.F (call : Cl) (n : Nat) (J : Jn (AEnd × H)) : Prop := JFix Try.prog ref25_Large.A call Try.f21 ref25_Large.an ref25_Large.c n J
def ref25_Large.f (J : Jn (AEnd × H)) (x0 x1 : AV) (h : H) : Option (AEnd × H) := J [] [] ⟨[(0, x0), (1, x1)], [], [], h⟩
def ref25_Large.l0 (J : Jn (AEnd × H)) (m0 : Nat) (x0 x5 : AV) (h : H) : Option (AEnd × H) := J [1, 1, 0, 1, 0] [m0] ⟨[(0, x0), (5, x5)], [(0, 0), (5, 0)], [], h⟩
theorem ref25_Large.f_eq {call : Cl} {n : Nat} {J : Jn (AEnd × H)} (hJ : ref25_Large.F call n J) (x0 x1 : AV) (h : H) : ref25_Large.f J x0 x1 h =
  (lnSl x0).bind fun v1 =>
  (bin .gtr v1 x1).bind fun v2 =>
  condV v2 (
    some (AEnd.ret (.bool true), h)) (
    ref25_Large.l0 J n x0 (.int .i64 0) h) := (hJ _ _ _ (by kernel_rfl)).trans (by kernel_rfl)
theorem ref25_Large.l0_eq {call : Cl} {n : Nat} {J : Jn (AEnd × H)} (hJ : ref25_Large.F call n J) (m0 : Nat) (x0 x5 : AV) (h : H) : ref25_Large.l0 J (m0 + 1) x0 x5 h =
  (lnSl x0).bind fun v3 =>
  (bin .lss x5 v3).bind fun v4 =>
  condV v4 (
    (ixSlice 2 x0 x5).bind fun v5 =>
    (fAddr 1 v5).bind fun v6 =>
    (ldCell h v6).bind fun v7 =>
    (lnStr v7).bind fun v8 =>
    (bin .gtr v8 (.int .i64 200)).bind fun v9 =>
    condV v9 (
      some (AEnd.ret (.bool true), h)) (
      (bin .add x5 (.int .i64 1)).bind fun v10 =>
      ref25_Large.l0 J m0 x0 v10 h)) (
    some (AEnd.ret (.bool false), h)) := (hJ _ _ _ (by kernel_rfl)).trans (by kernel_rfl)
noncomputable def law25_lives.A : FAnn := { nv := 16, mv := [(5, 0), (11, 0), (11, 43), (11, 47), (11, 52), (11, 63), (11, 67), (11, 72), (11, 80), (11, 85)], ld := [], lst := [], obj := [], q := [26, 27], raw := [] }
noncomputable def law25_lives.an : Ann := .nil
noncomputable abbrev law25_lives.c : Code := Try.f22.body.getD .skip
noncomputable def law25_lives.J (call : Cl) (n : Nat) : Jn (AEnd × H) := realJ Try.prog law25_lives.A call Try.f22 law25_lives.an law25_lives.c n
abbrev law25_lives.F (call : Cl) (n : Nat) (J : Jn (AEnd × H)) : Prop := JFix Try.prog law25_lives.A call Try.f22 law25_lives.an law25_lives.c n J
def law25_lives.f (J : Jn (AEnd × H)) (h : H) : Option (AEnd × H) := J [] [] ⟨[], [], [], h⟩
theorem law25_lives.f_eq {call : Cl} {n : Nat} {J : Jn (AEnd × H)} (hJ : law25_lives.F call n J) (h : H) : law25_lives.f J  h =
  (mkAgg [.int .i64 0, .int .i64 0, .str [], .str [], .int .i64 0, .str []] [(0, 1, AV.copy (.int .i64 1)), (1, 1, AV.copy (.int .i64 1)), (2, 1, AV.copy (.str [102])), (3, 1, AV.copy (.str [97, 46, 103, 111])), (4, 1, AV.copy (.int .i64 9)), (5, 1, AV.copy (.str [120, 32, 60, 61, 32, 48]))]).bind fun v1 =>
  let h2 : H := h ++ [.arr [.int .i64 0, .int .i64 0, .str [], .str [], .int .i64 0, .str []] false]
  (stN 6 h2 (.ptr h.length 0) v1).bind fun p3 =>
  (ldAgg 6 p3.2 (.ptr h.length 0)).bind fun v4 =>
  let h5 : H := p3.2 ++ [.arr [.int .i64 0, .int .i64 0, .str [], .str [], .int .i64 0, .str []] false]
  (stN 6 h5 (.ptr p3.2.length 0) (AV.copy v4)).bind fun p6 =>
  (fAddr 4 (.ptr p3.2.length 0)).bind fun v7 =>
  (stN 1 p6.2 v7 (.int .i64 3)).bind fun p8 =>
  (ldAgg 6 p8.2 (.ptr h.length 0)).bind fun v9 =>
  (call n_finger_One [AV.canon v9, AV.canon (.int .i64 0)] p8.2).bind fun p10 => retOr p10.1 (fun r11p => some (AEnd.pan r11p, p10.2)) fun r11 =>
  (mkAgg [.int .u64 0, .str []] [(0, 1, AV.copy r11), (1, 1, AV.copy (.str [107]))]).bind fun v12 =>
  (mkRows 2 [.int .u64 0, .str []] 1 [(0, v12)]).bind fun v13 =>
  (ldAgg 6 p10.2 (.ptr h.length 0)).bind fun v14 =>
  (ldAgg 6 p10.2 (.ptr p3.2.length 0)).bind fun v15 =>
  (mkRows 6 [.int .i64 0, .int .i64 0, .str [], .str [], .int .i64 0, .str []] 2 [(0, v14), (1, v15)]).bind fun v16 =>
  (call n_base_Match [AV.canon v13, AV.canon v16] p10.2).bind fun p17 => retOr p17.1 (fun r18p => some (AEnd.pan r18p, p17.2)) fun r18 =>
  (exTuple 0 r18).bind fun v19 =>
  (exTuple 1 r18).bind fun v20 =>
  let h21 : H := p17.2 ++ [.arr [.list [] .cap, .list [] .cap, .list [] .cap, .list [] .cap] false]
  (stN 4 h21 (.ptr p17.2.length 0) v19).bind fun p22 =>
  (ldAgg 6 p22.2 (.ptr h.length 0)).bind fun v23 =>
  (ldAgg 6 p22.2 (.ptr p3.2.length 0)).bind fun v24 =>
  (mkRows 6 [.int .i64 0, .int .i64 0, .str [], .str [], .int .i64 0, .str []] 2 [(0, v23), (1, v24)]).bind fun v25 =>
  (call n_base_Of [AV.canon v25, AV.canon (.str [110])] p22.2).bind fun p26 => retOr p26.1 (fun r27p => some (AEnd.pan r27p, p26.2)) fun r27 =>
  (exTuple 0 r27).bind fun v28 =>
  (exTuple 1 r27).bind fun v29 =>
  (mkAgg [.int .u64 0, .str []] [(0, 1, AV.copy (.int .u64 2)), (1, 1, AV.copy (.str [97]))]).bind fun v30 =>
  (mkRows 2 [.int .u64 0, .str []] 1 [(0, v30)]).bind fun v31 =>
  (mkAgg [.int .u64 0, .str []] [(0, 1, AV.copy (.int .u64 1))]).bind fun v32 =>
  (mkAgg [.int .u64 0, .str []] [(0, 1, AV.copy (.int .u64 2)), (1, 1, AV.copy (.str [98]))]).bind fun v33 =>
  (mkRows 2 [.int .u64 0, .str []] 2 [(0, v32), (1, v33)]).bind fun v34 =>
  (call n_base_Union [AV.canon v31, AV.canon v34] p26.2).bind fun p35 => retOr p35.1 (fun r36p => some (AEnd.pan r36p, p35.2)) fun r36 =>
  (exTuple 0 r36).bind fun v37 =>
  (exTuple 1 r36).bind fun v38 =>
  (mkAgg [.int .u64 0, .str []] [(0, 1, AV.copy (.int .u64 1))]).bind fun v39 =>
  (mkRows 2 [.int .u64 0, .str []] 1 [(0, v39)]).bind fun v40 =>
  (call n_base_Less [AV.canon v37, AV.canon v40] p35.2).bind fun p41 => retOr p41.1 (fun r42p => some (AEnd.pan r42p, p41.2)) fun r42 =>
  (exTuple 0 r42).bind fun v43 =>
  (exTuple 1 r42).bind fun v44 =>
  (call n_base_Find [AV.canon v37, AV.canon (.int .u64 2)] p41.2).bind fun p45 => retOr p45.1 (fun r46p => some (AEnd.pan r46p, p45.2)) fun r46 =>
  (exTuple 0 r46).bind fun v47 =>
  (exTuple 1 r46).bind fun v48 =>
  let h49 : H := p45.2 ++ [.arr [.int .u64 0, .str []] false]
  (stN 2 h49 (.ptr p45.2.length 0) v47).bind fun p50 =>
  (mkAgg [.int .u64 0, .str []] [(0, 1, AV.copy (.int .u64 2))]).bind fun v51 =>
  (mkAgg [.int .u64 0, .str []] [(0, 1, AV.copy (.int .u64 1))]).bind fun v52 =>
  (mkRows 2 [.int .u64 0, .str []] 2 [(0, v51), (1, v52)]).bind fun v53 =>
  (call n_base_Match [AV.canon v53, AV.canon (.list [] .cap)] p50.2).bind fun p54 => retOr p54.1 (fun r55p => some (AEnd.pan r55p, p54.2)) fun r55 =>
  (exTuple 0 r55).bind fun v56 =>
  (exTuple 1 r55).bind fun v57 =>
  let h58 : H := p54.2 ++ [.arr [.list [] .cap, .list [] .cap, .list [] .cap, .list [] .cap] false]
  (stN 4 h58 (.ptr p54.2.length 0) v56).bind fun p59 =>
  (bin .eql v20 (.int .i64 0)).bind fun v60 =>
  condV v60 (
    (fAddr 0 (.ptr p17.2.length 0)).bind fun v61 =>
    (ldCell p59.2 v61).bind fun v62 =>
    (lnSl v62).bind fun v63 =>
    (bin .eql v63 (.int .i64 1)).bind fun v64 =>
    condV v64 (
      (fAddr 0 (.ptr p17.2.length 0)).bind fun v65 =>
      (ldCell p59.2 v65).bind fun v66 =>
      (ixSlice 6 v66 (.int .i64 0)).bind fun v67 =>
      (ldAgg 6 p59.2 v67).bind fun v68 =>
      (ldAgg 6 p59.2 (.ptr p3.2.length 0)).bind fun v69 =>
      (eqv false (aeq Try.prog 20 t_api_Alarm v68 v69)).bind fun v70 =>
      condV v70 (
        (fAddr 1 (.ptr p17.2.length 0)).bind fun v71 =>
        (ldCell p59.2 v71).bind fun v72 =>
        (lnSl v72).bind fun v73 =>
        (bin .eql v73 (.int .i64 1)).bind fun v74 =>
        condV v74 (
          (fAddr 1 (.ptr p17.2.length 0)).bind fun v75 =>
          (ldCell p59.2 v75).bind fun v76 =>
          (ixSlice 6 v76 (.int .i64 0)).bind fun v77 =>
          (ldAgg 6 p59.2 v77).bind fun v78 =>
          (ldAgg 6 p59.2 (.ptr h.length 0)).bind fun v79 =>
          (eqv false (aeq Try.prog 20 t_api_Alarm v78 v79)).bind fun v80 =>
          condV v80 (
            (fAddr 2 (.ptr p17.2.length 0)).bind fun v81 =>
            (ldCell p59.2 v81).bind fun v82 =>
            (lnSl v82).bind fun v83 =>
            (bin .eql v83 (.int .i64 1)).bind fun v84 =>
            condV v84 (
              (fAddr 3 (.ptr p17.2.length 0)).bind fun v85 =>
              (ldCell p59.2 v85).bind fun v86 =>
              (lnSl v86).bind fun v87 =>
              (bin .eql v87 (.int .i64 0)).bind fun v88 =>
              condV v88 (
                (bin .eql v29 (.int .i64 0)).bind fun v89 =>
                condV v89 (
                  (lnSl v28).bind fun v90 =>
                  (bin .eql v90 (.int .i64 2)).bind fun v91 =>
                  condV v91 (
                    (bin .eql v38 (.int .i64 0)).bind fun v92 =>
                    condV v92 (
                      (mkAgg [.int .u64 0, .str []] [(0, 1, AV.copy (.int .u64 1))]).bind fun v93 =>
                      (mkAgg [.int .u64 0, .str []] [(0, 1, AV.copy (.int .u64 2)), (1, 1, AV.copy (.str [98]))]).bind fun v94 =>
                      (mkRows 2 [.int .u64 0, .str []] 2 [(0, v93), (1, v94)]).bind fun v95 =>
                      (call n_warrantorref21_SameMarks [AV.canon v37, AV.canon v95] p59.2).bind fun p96 => retOr p96.1 (fun _ => none) fun r97 =>
                      condV r97 (
                        (bin .eql v44 (.int .i64 0)).bind fun v98 =>
                        condV v98 (
                          (lnSl v43).bind fun v99 =>
                          (bin .eql v99 (.int .i64 1)).bind fun v100 =>
                          condV v100 (
                            condV v48 (
                              (fAddr 1 (.ptr p45.2.length 0)).bind fun v101 =>
                              (ldCell p96.2 v101).bind fun v102 =>
                              (bin .eql v102 (.str [98])).bind fun v103 =>
                              condV v103 (
                                (bin .eql v57 (.int .i64 210)).bind fun v104 =>
                                condV v104 (
                                  (call n_base_Same [AV.canon v37, AV.canon v37] p96.2).bind fun p105 => retOr p105.1 (fun _ => none) fun r106 =>
                                  some (AEnd.ret (AV.copy r106), p105.2)) (
                                  some (AEnd.ret (AV.copy (.bool false)), p96.2))) (
                                some (AEnd.ret (AV.copy (.bool false)), p96.2))) (
                              some (AEnd.ret (AV.copy (.bool false)), p96.2))) (
                            some (AEnd.ret (AV.copy (.bool false)), p96.2))) (
                          some (AEnd.ret (AV.copy (.bool false)), p96.2))) (
                        some (AEnd.ret (AV.copy (.bool false)), p96.2))) (
                      some (AEnd.ret (AV.copy (.bool false)), p59.2))) (
                    some (AEnd.ret (AV.copy (.bool false)), p59.2))) (
                  some (AEnd.ret (AV.copy (.bool false)), p59.2))) (
                some (AEnd.ret (AV.copy (.bool false)), p59.2))) (
              some (AEnd.ret (AV.copy (.bool false)), p59.2))) (
            some (AEnd.ret (AV.copy (.bool false)), p59.2))) (
          some (AEnd.ret (AV.copy (.bool false)), p59.2))) (
        some (AEnd.ret (AV.copy (.bool false)), p59.2))) (
      some (AEnd.ret (AV.copy (.bool false)), p59.2))) (
    some (AEnd.ret (AV.copy (.bool false)), p59.2)) := (hJ _ _ _ (by kernel_rfl)).trans (by kernel_rfl)
noncomputable def base_Union.A : FAnn := { nv := 8, mv := [(3, 0), (7, 0), (7, 6), (9, 0), (9, 6), (10, 0), (11, 0), (11, 2), (14, 0)], ld := [], lst := [], obj := [], q := [], raw := [] }
noncomputable def base_Union.an : Ann := .mk none .nil (.mk none (.mk none .nil (.mk none .nil (.mk none .nil (.mk none (.mk none (.mk none (.mk (some [(0, 0), (1, 0), (7, 255)]) .nil (.mk (some [(0, 0), (1, 0), (7, 255)]) (.mk none (.mk none (.mk none .nil (.mk (some [(0, 0), (1, 0), (7, 255), (22, 0)]) .nil (.mk none .nil (.mk (some [(0, 0), (1, 0), (7, 255), (50, 0)]) .nil .nil)))) .nil) (.mk (some [(0, 0), (1, 0), (7, 255)]) .nil .nil)) .nil)) .nil) .nil) .nil)))) .nil)
noncomputable abbrev base_Union.c : Code := Try.f23.body.getD .skip
noncomputable def base_Union.J (call : Cl) (n : Nat) : Jn (AEnd × H) := realJ Try.prog base_Union.A call Try.f23 base_Union.an base_Union.c n
abbrev base_Union.F (call : Cl) (n : Nat) (J : Jn (AEnd × H)) : Prop := JFix Try.prog base_Union.A call Try.f23 base_Union.an base_Union.c n J
def base_Union.f (J : Jn (AEnd × H)) (x0 x1 : AV) (h : H) : Option (AEnd × H) := J [] [] ⟨[(0, x0), (1, x1)], [], [], h⟩
def base_Union.l0 (J : Jn (AEnd × H)) (m0 : Nat) (x0 x1 x7 : AV) (h : H) : Option (AEnd × H) := J [1, 0, 1, 1, 1, 0, 0] [m0] ⟨[(0, x0), (1, x1), (7, x7)], [(0, 0), (1, 0), (7, 255)], [], h⟩
def base_Union.j0 (J : Jn (AEnd × H)) (m0 : Nat) (x0 x1 x7 : AV) (h : H) : Option (AEnd × H) := J [1, 0, 1, 1, 1, 0, 0, 0, 1] [m0] ⟨[(0, x0), (1, x1), (7, x7)], [(0, 0), (1, 0), (7, 255)], [], h⟩
def base_Union.j2 (J : Jn (AEnd × H)) (m0 : Nat) (x0 x1 x7 x22 : AV) (h : H) : Option (AEnd × H) := J [1, 0, 1, 1, 1, 0, 0, 0, 1, 0, 0, 0, 1] [m0] ⟨[(0, x0), (1, x1), (7, x7), (22, x22)], [(0, 0), (1, 0), (7, 255), (22, 0)], [], h⟩
def base_Union.j3 (J : Jn (AEnd × H)) (m0 : Nat) (x0 x1 x7 x50 : AV) (h : H) : Option (AEnd × H) := J [1, 0, 1, 1, 1, 0, 0, 0, 1, 0, 0, 0, 1, 1, 1] [m0] ⟨[(0, x0), (1, x1), (7, x7), (50, x50)], [(0, 0), (1, 0), (7, 255), (50, 0)], [], h⟩
def base_Union.j1 (J : Jn (AEnd × H)) (m0 : Nat) (x0 x1 x7 : AV) (h : H) : Option (AEnd × H) := J [1, 0, 1, 1, 1, 0, 0, 0, 1, 0, 1] [m0] ⟨[(0, x0), (1, x1), (7, x7)], [(0, 0), (1, 0), (7, 255)], [], h⟩
theorem base_Union.f_eq {call : Cl} {n : Nat} {J : Jn (AEnd × H)} (hJ : base_Union.F call n J) (x0 x1 : AV) (h : H) : base_Union.f J x0 x1 h =
  (call n_base_both [AV.canon x0, AV.canon x1] h).bind fun p1 => retOr p1.1 (fun r2p => some (AEnd.pan r2p, p1.2)) fun r2 =>
  (bin .neq r2 (.int .i64 0)).bind fun v3 =>
  condV v3 (
    some (AEnd.ret (.tuple [(.list [] .cap), r2]), p1.2)) (
    base_Union.l0 J n x0 x1 (.list [] .cap) p1.2) := (hJ _ _ _ (by kernel_rfl)).trans (by kernel_rfl)
theorem base_Union.l0_eq {call : Cl} {n : Nat} {J : Jn (AEnd × H)} (hJ : base_Union.F call n J) (m0 : Nat) (x0 x1 x7 : AV) (h : H) : base_Union.l0 J (m0 + 1) x0 x1 x7 h =
  (lnSl x0).bind fun v4 =>
  (bin .gtr v4 (.int .i64 0)).bind fun v5 =>
  condV v5 (
    base_Union.j0 J m0 x0 x1 x7 h) (
    (lnSl x1).bind fun v6 =>
    (bin .gtr v6 (.int .i64 0)).bind fun v7 =>
    condV v7 (
      base_Union.j0 J m0 x0 x1 x7 h) (
      (lnSl x7).bind fun v8 =>
      (bin .gtr v8 (.int .i64 1024)).bind fun v9 =>
      condV v9 (
        some (AEnd.ret (.tuple [(.list [] .cap), (.int .i64 3)]), h)) (
        some (AEnd.ret (.tuple [x7, (.int .i64 0)]), h)))) := (hJ _ _ _ (by kernel_rfl)).trans (by kernel_rfl)
theorem base_Union.j0_eq {call : Cl} {n : Nat} {J : Jn (AEnd × H)} (hJ : base_Union.F call n J) (m0 : Nat) (x0 x1 x7 : AV) (h : H) : base_Union.j0 J m0 x0 x1 x7 h =
  (lnSl x1).bind fun v10 =>
  (bin .eql v10 (.int .i64 0)).bind fun v11 =>
  condV v11 (
    base_Union.j2 J m0 x0 x1 x7 (.bool true) h) (
    (lnSl x0).bind fun v12 =>
    (bin .gtr v12 (.int .i64 0)).bind fun v13 =>
    condV v13 (
      (ixSlice 2 x0 (.int .i64 0)).bind fun v14 =>
      (fAddr 0 v14).bind fun v15 =>
      (ldCell h v15).bind fun v16 =>
      (ixSlice 2 x1 (.int .i64 0)).bind fun v17 =>
      (fAddr 0 v17).bind fun v18 =>
      (ldCell h v18).bind fun v19 =>
      (bin .lss v16 v19).bind fun v20 =>
      base_Union.j2 J m0 x0 x1 x7 v20 h) (
      base_Union.j2 J m0 x0 x1 x7 (.bool false) h)) := (hJ _ _ _ (by kernel_rfl)).trans (by kernel_rfl)
theorem base_Union.j2_eq {call : Cl} {n : Nat} {J : Jn (AEnd × H)} (hJ : base_Union.F call n J) (m0 : Nat) (x0 x1 x7 x22 : AV) (h : H) : base_Union.j2 J m0 x0 x1 x7 x22 h =
  condV x22 (
    (ixSlice 2 x0 (.int .i64 0)).bind fun v21 =>
    (ldAgg 2 h v21).bind fun v22 =>
    (mkRows 2 [.int .u64 0, .str []] 1 [(0, v22)]).bind fun v23 =>
    (apSlice 2 24 false true h x7 v23).bind fun v24 =>
    (slSlice 2 x0 (some (.int .i64 1)) none none).bind fun v25 =>
    base_Union.l0 J m0 v25 x1 v24 h) (
    (lnSl x0).bind fun v26 =>
    (bin .eql v26 (.int .i64 0)).bind fun v27 =>
    condV v27 (
      base_Union.j3 J m0 x0 x1 x7 (.bool true) h) (
      (ixSlice 2 x1 (.int .i64 0)).bind fun v28 =>
      (fAddr 0 v28).bind fun v29 =>
      (ldCell h v29).bind fun v30 =>
      (ixSlice 2 x0 (.int .i64 0)).bind fun v31 =>
      (fAddr 0 v31).bind fun v32 =>
      (ldCell h v32).bind fun v33 =>
      (bin .lss v30 v33).bind fun v34 =>
      base_Union.j3 J m0 x0 x1 x7 v34 h)) := (hJ _ _ _ (by kernel_rfl)).trans (by kernel_rfl)
theorem base_Union.j3_eq {call : Cl} {n : Nat} {J : Jn (AEnd × H)} (hJ : base_Union.F call n J) (m0 : Nat) (x0 x1 x7 x50 : AV) (h : H) : base_Union.j3 J m0 x0 x1 x7 x50 h =
  condV x50 (
    (ixSlice 2 x1 (.int .i64 0)).bind fun v35 =>
    (ldAgg 2 h v35).bind fun v36 =>
    (mkRows 2 [.int .u64 0, .str []] 1 [(0, v36)]).bind fun v37 =>
    (apSlice 2 24 false true h x7 v37).bind fun v38 =>
    (slSlice 2 x1 (some (.int .i64 1)) none none).bind fun v39 =>
    base_Union.l0 J m0 x0 v39 v38 h) (
    base_Union.j1 J m0 x0 x1 x7 h) := (hJ _ _ _ (by kernel_rfl)).trans (by kernel_rfl)
theorem base_Union.j1_eq {call : Cl} {n : Nat} {J : Jn (AEnd × H)} (hJ : base_Union.F call n J) (m0 : Nat) (x0 x1 x7 : AV) (h : H) : base_Union.j1 J m0 x0 x1 x7 h =
  (ixSlice 2 x0 (.int .i64 0)).bind fun v40 =>
  (fAddr 0 v40).bind fun v41 =>
  (ldCell h v41).bind fun v42 =>
  (ixSlice 2 x0 (.int .i64 0)).bind fun v43 =>
  (fAddr 1 v43).bind fun v44 =>
  (ldCell h v44).bind fun v45 =>
  (ixSlice 2 x1 (.int .i64 0)).bind fun v46 =>
  (fAddr 1 v46).bind fun v47 =>
  (ldCell h v47).bind fun v48 =>
  (maxMinAll true [v45, v48]).bind fun v49 =>
  (mkAgg [.int .u64 0, .str []] [(0, 1, AV.copy v42), (1, 1, AV.copy v49)]).bind fun v50 =>
  (mkRows 2 [.int .u64 0, .str []] 1 [(0, v50)]).bind fun v51 =>
  (apSlice 2 24 false true h x7 v51).bind fun v52 =>
  (slSlice 2 x0 (some (.int .i64 1)) none none).bind fun v53 =>
  (slSlice 2 x1 (some (.int .i64 1)) none none).bind fun v54 =>
  base_Union.l0 J m0 v53 v54 v52 h := (hJ _ _ _ (by kernel_rfl)).trans (by kernel_rfl)
noncomputable def base_Less.A : FAnn := { nv := 9, mv := [(3, 0), (4, 0), (5, 0)], ld := [], lst := [], obj := [], q := [], raw := [] }
noncomputable def base_Less.an : Ann := .nil
noncomputable abbrev base_Less.c : Code := Try.f24.body.getD .skip
noncomputable def base_Less.J (call : Cl) (n : Nat) : Jn (AEnd × H) := realJ Try.prog base_Less.A call Try.f24 base_Less.an base_Less.c n
abbrev base_Less.F (call : Cl) (n : Nat) (J : Jn (AEnd × H)) : Prop := JFix Try.prog base_Less.A call Try.f24 base_Less.an base_Less.c n J
def base_Less.f (J : Jn (AEnd × H)) (x0 x1 : AV) (h : H) : Option (AEnd × H) := J [] [] ⟨[(0, x0), (1, x1)], [], [], h⟩
theorem base_Less.f_eq {call : Cl} {n : Nat} {J : Jn (AEnd × H)} (hJ : base_Less.F call n J) (x0 x1 : AV) (h : H) : base_Less.f J x0 x1 h =
  (bx h (AV.copy x1)).bind fun p1 =>
  (ldCell p1.2 p1.1).bind fun v2 =>
  (call n_base_both [AV.canon x0, AV.canon v2] p1.2).bind fun p3 => retOr p3.1 (fun r4p => some (AEnd.pan r4p, p3.2)) fun r4 =>
  (bin .neq r4 (.int .i64 0)).bind fun v5 =>
  condV v5 (
    some (AEnd.ret (.tuple [(.list [] .cap), r4]), p3.2)) (
    (call n_base_part_api_Mark [AV.canon x0, AV.canon (.func (.func n_base_Less_c1) [] [AV.copy p1.1])] p3.2).bind fun p6 => retOr p6.1 (fun r7p => some (AEnd.pan r7p, p6.2)) fun r7 =>
    (exTuple 0 r7).bind fun v8 =>
    (exTuple 1 r7).bind fun v9 =>
    some (AEnd.ret (.tuple [v9, (.int .i64 0)]), p6.2)) := (hJ _ _ _ (by kernel_rfl)).trans (by kernel_rfl)
noncomputable def base_Find.A : FAnn := { nv := 8, mv := [(1, 1), (2, 0), (4, 0), (4, 1)], ld := [], lst := [], obj := [], q := [], raw := [] }
noncomputable def base_Find.an : Ann := .mk none .nil (.mk none .nil (.mk none (.mk none .nil (.mk (some [(0, 0), (4, 0), (6, 1), (20, 0)]) .nil .nil)) (.mk (some [(0, 0), (4, 0), (6, 1)]) .nil .nil)))
noncomputable abbrev base_Find.c : Code := Try.f25.body.getD .skip
noncomputable def base_Find.J (call : Cl) (n : Nat) : Jn (AEnd × H) := realJ Try.prog base_Find.A call Try.f25 base_Find.an base_Find.c n
abbrev base_Find.F (call : Cl) (n : Nat) (J : Jn (AEnd × H)) : Prop := JFix Try.prog base_Find.A call Try.f25 base_Find.an base_Find.c n J
def base_Find.f (J : Jn (AEnd × H)) (x0 x1 : AV) (h : H) : Option (AEnd × H) := J [] [] ⟨[(0, x0), (1, x1)], [], [], h⟩
def base_Find.j1 (J : Jn (AEnd × H)) (x0 x4 x6 x20 : AV) (h : H) : Option (AEnd × H) := J [1, 1, 0, 1] [] ⟨[(0, x0), (4, x4), (6, x6), (20, x20)], [(0, 0), (4, 0), (6, 1), (20, 0)], [], h⟩
def base_Find.j0 (J : Jn (AEnd × H)) (x0 x4 x6 : AV) (h : H) : Option (AEnd × H) := J [1, 1, 1] [] ⟨[(0, x0), (4, x4), (6, x6)], [(0, 0), (4, 0), (6, 1)], [], h⟩
theorem base_Find.f_eq {call : Cl} {n : Nat} {J : Jn (AEnd × H)} (hJ : base_Find.F call n J) (x0 x1 : AV) (h : H) : base_Find.f J x0 x1 h =
  let h1 : H := h ++ [.arr [.int .u64 0, .str []] false]
  (call n_base_search [AV.canon x0, AV.canon x1] h1).bind fun p2 => retOr p2.1 (fun r3p => some (AEnd.pan r3p, p2.2)) fun r3 =>
  (exTuple 0 r3).bind fun v4 =>
  (exTuple 1 r3).bind fun v5 =>
  (unOp .not v5).bind fun v6 =>
  condV v6 (
    base_Find.j1 J  x0 (.ptr h.length 0) v4 (.bool true) p2.2) (
    (call n_result_Base [AV.canon x0] p2.2).bind fun p7 => retOr p7.1 (fun r8p => some (AEnd.pan r8p, p7.2)) fun r8 =>
    (bin .neq r8 (.int .i64 0)).bind fun v9 =>
    base_Find.j1 J  x0 (.ptr h.length 0) v4 v9 p7.2) := (hJ _ _ _ (by kernel_rfl)).trans (by kernel_rfl)
theorem base_Find.j1_eq {call : Cl} {n : Nat} {J : Jn (AEnd × H)} (hJ : base_Find.F call n J) (x0 x4 x6 x20 : AV) (h : H) : base_Find.j1 J  x0 x4 x6 x20 h =
  condV x20 (
    (mkAgg [.int .u64 0, .str []] []).bind fun v10 =>
    (stN 2 h x4 v10).bind fun p11 =>
    (resN [(ldAgg 2 p11.2 x4).map AV.copy, some (.bool false)]).map fun v => (AEnd.ret v, p11.2)) (
    base_Find.j0 J  x0 x4 x6 h) := (hJ _ _ _ (by kernel_rfl)).trans (by kernel_rfl)
theorem base_Find.j0_eq {call : Cl} {n : Nat} {J : Jn (AEnd × H)} (hJ : base_Find.F call n J) (x0 x4 x6 : AV) (h : H) : base_Find.j0 J  x0 x4 x6 h =
  (ixSlice 2 x0 x6).bind fun v12 =>
  (ldAgg 2 h v12).bind fun v13 =>
  (stN 2 h x4 (AV.copy v13)).bind fun p14 =>
  (resN [(ldAgg 2 p14.2 x4).map AV.copy, some (.bool true)]).map fun v => (AEnd.ret v, p14.2) := (hJ _ _ _ (by kernel_rfl)).trans (by kernel_rfl)
noncomputable def base_Same.A : FAnn := { nv := 4, mv := [(1, 0), (1, 1)], ld := [], lst := [], obj := [], q := [], raw := [] }
noncomputable def base_Same.an : Ann := .nil
noncomputable abbrev base_Same.c : Code := Try.f26.body.getD .skip
noncomputable def base_Same.J (call : Cl) (n : Nat) : Jn (AEnd × H) := realJ Try.prog base_Same.A call Try.f26 base_Same.an base_Same.c n
abbrev base_Same.F (call : Cl) (n : Nat) (J : Jn (AEnd × H)) : Prop := JFix Try.prog base_Same.A call Try.f26 base_Same.an base_Same.c n J
def base_Same.f (J : Jn (AEnd × H)) (x0 x1 : AV) (h : H) : Option (AEnd × H) := J [] [] ⟨[(0, x0), (1, x1)], [], [], h⟩
theorem base_Same.f_eq {call : Cl} {n : Nat} {J : Jn (AEnd × H)} (hJ : base_Same.F call n J) (x0 x1 : AV) (h : H) : base_Same.f J x0 x1 h =
  (call n_slices_Equal_api_Mark_api_Mark [AV.canon x0, AV.canon x1] h).bind fun p1 => retOr p1.1 (fun r2p => some (AEnd.pan r2p, p1.2)) fun r2 =>
  some (AEnd.ret r2, p1.2) := (hJ _ _ _ (by kernel_rfl)).trans (by kernel_rfl)
noncomputable def ref21_SameMarks.A : FAnn := { nv := 6, mv := [(5, 0)], ld := [], lst := [], obj := [], q := [], raw := [] }
noncomputable def ref21_SameMarks.an : Ann := .mk none .nil (.mk none .nil (.mk none (.mk none .nil (.mk none (.mk none (.mk (some [(0, 0), (1, 0), (5, 0)]) .nil .nil) .nil) .nil)) .nil))
noncomputable abbrev ref21_SameMarks.c : Code := Try.f27.body.getD .skip
noncomputable def ref21_SameMarks.J (call : Cl) (n : Nat) : Jn (AEnd × H) := realJ Try.prog ref21_SameMarks.A call Try.f27 ref21_SameMarks.an ref21_SameMarks.c n
abbrev ref21_SameMarks.F (call : Cl) (n : Nat) (J : Jn (AEnd × H)) : Prop := JFix Try.prog ref21_SameMarks.A call Try.f27 ref21_SameMarks.an ref21_SameMarks.c n J
def ref21_SameMarks.f (J : Jn (AEnd × H)) (x0 x1 : AV) (h : H) : Option (AEnd × H) := J [] [] ⟨[(0, x0), (1, x1)], [], [], h⟩
def ref21_SameMarks.l0 (J : Jn (AEnd × H)) (m0 : Nat) (x0 x1 x5 : AV) (h : H) : Option (AEnd × H) := J [1, 1, 0, 1, 0] [m0] ⟨[(0, x0), (1, x1), (5, x5)], [(0, 0), (1, 0), (5, 0)], [], h⟩
theorem ref21_SameMarks.f_eq {call : Cl} {n : Nat} {J : Jn (AEnd × H)} (hJ : ref21_SameMarks.F call n J) (x0 x1 : AV) (h : H) : ref21_SameMarks.f J x0 x1 h =
  (lnSl x0).bind fun v1 =>
  (lnSl x1).bind fun v2 =>
  (bin .neq v1 v2).bind fun v3 =>
  condV v3 (
    some (AEnd.ret (.bool false), h)) (
    ref21_SameMarks.l0 J n x0 x1 (.int .i64 0) h) := (hJ _ _ _ (by kernel_rfl)).trans (by kernel_rfl)
theorem ref21_SameMarks.l0_eq {call : Cl} {n : Nat} {J : Jn (AEnd × H)} (hJ : ref21_SameMarks.F call n J) (m0 : Nat) (x0 x1 x5 : AV) (h : H) : ref21_SameMarks.l0 J (m0 + 1) x0 x1 x5 h =
  (lnSl x0).bind fun v4 =>
  (bin .lss x5 v4).bind fun v5 =>
  condV v5 (
    (ixSlice 2 x0 x5).bind fun v6 =>
    (ldAgg 2 h v6).bind fun v7 =>
    (ixSlice 2 x1 x5).bind fun v8 =>
    (ldAgg 2 h v8).bind fun v9 =>
    (eqv true (aeq Try.prog 20 t_api_Mark v7 v9)).bind fun v10 =>
    condV v10 (
      some (AEnd.ret (.bool false), h)) (
      (bin .add x5 (.int .i64 1)).bind fun v11 =>
      ref21_SameMarks.l0 J m0 x0 x1 v11 h)) (
    some (AEnd.ret (.bool true), h)) := (hJ _ _ _ (by kernel_rfl)).trans (by kernel_rfl)
noncomputable def ref21_Base.A : FAnn := { nv := 4, mv := [(3, 0), (6, 0)], ld := [], lst := [], obj := [], q := [53], raw := [] }
noncomputable def ref21_Base.an : Ann := .mk none .nil (.mk none (.mk none .nil (.mk none (.mk none (.mk (some [(0, 0), (3, 0)]) .nil (.mk (some [(0, 0), (3, 0)]) (.mk none (.mk none .nil (.mk (some [(0, 0), (3, 0), (38, 0)]) .nil .nil)) .nil) .nil)) .nil) .nil)) .nil)
noncomputable abbrev ref21_Base.c : Code := Try.f28.body.getD .skip
noncomputable def ref21_Base.J (call : Cl) (n : Nat) : Jn (AEnd × H) := realJ Try.prog ref21_Base.A call Try.f28 ref21_Base.an ref21_Base.c n
abbrev ref21_Base.F (call : Cl) (n : Nat) (J : Jn (AEnd × H)) : Prop := JFix Try.prog ref21_Base.A call Try.f28 ref21_Base.an ref21_Base.c n J
def ref21_Base.f (J : Jn (AEnd × H)) (x0 : AV) (h : H) : Option (AEnd × H) := J [] [] ⟨[(0, x0)], [], [], h⟩
def ref21_Base.l0 (J : Jn (AEnd × H)) (m0 : Nat) (x0 x3 : AV) (h : H) : Option (AEnd × H) := J [1, 0, 1, 0] [m0] ⟨[(0, x0), (3, x3)], [(0, 0), (3, 0)], [], h⟩
def ref21_Base.j0 (J : Jn (AEnd × H)) (m0 : Nat) (x0 x3 : AV) (h : H) : Option (AEnd × H) := J [1, 0, 1, 0, 0, 1] [m0] ⟨[(0, x0), (3, x3)], [(0, 0), (3, 0)], [], h⟩
def ref21_Base.j1 (J : Jn (AEnd × H)) (m0 : Nat) (x0 x3 x38 : AV) (h : H) : Option (AEnd × H) := J [1, 0, 1, 0, 0, 1, 0, 0, 1] [m0] ⟨[(0, x0), (3, x3), (38, x38)], [(0, 0), (3, 0), (38, 0)], [], h⟩
theorem ref21_Base.f_eq {call : Cl} {n : Nat} {J : Jn (AEnd × H)} (hJ : ref21_Base.F call n J) (x0 : AV) (h : H) : ref21_Base.f J x0 h =
  ref21_Base.l0 J n x0 (.int .i64 0) h := (hJ _ _ _ (by kernel_rfl)).trans (by kernel_rfl)
theorem ref21_Base.l0_eq {call : Cl} {n : Nat} {J : Jn (AEnd × H)} (hJ : ref21_Base.F call n J) (m0 : Nat) (x0 x3 : AV) (h : H) : ref21_Base.l0 J (m0 + 1) x0 x3 h =
  (lnSl x0).bind fun v1 =>
  (bin .lss x3 v1).bind fun v2 =>
  condV v2 (
    (bin .lss x3 (.int .i64 1100)).bind fun v3 =>
    condV v3 (
      ref21_Base.j0 J m0 x0 x3 h) (
      (lnSl x0).bind fun v4 =>
      (bin .leq v4 (.int .i64 1024)).bind fun v5 =>
      some (AEnd.ret (AV.copy v5), h))) (
    (lnSl x0).bind fun v6 =>
    (bin .leq v6 (.int .i64 1024)).bind fun v7 =>
    some (AEnd.ret (AV.copy v7), h)) := (hJ _ _ _ (by kernel_rfl)).trans (by kernel_rfl)
theorem ref21_Base.j0_eq {call : Cl} {n : Nat} {J : Jn (AEnd × H)} (hJ : ref21_Base.F call n J) (m0 : Nat) (x0 x3 : AV) (h : H) : ref21_Base.j0 J m0 x0 x3 h =
  (ixSlice 2 x0 x3).bind fun v8 =>
  (fAddr 1 v8).bind fun v9 =>
  (ldCell h v9).bind fun v10 =>
  (call n_warrantorref21_Note [AV.canon v10] h).bind fun p11 => retOr p11.1 (fun _ => none) fun r12 =>
  (unOp .not r12).bind fun v13 =>
  condV v13 (
    ref21_Base.j1 J m0 x0 x3 (.bool true) p11.2) (
    (bin .gtr x3 (.int .i64 0)).bind fun v14 =>
    condV v14 (
      (ixSlice 2 x0 x3).bind fun v15 =>
      (fAddr 0 v15).bind fun v16 =>
      (ldCell p11.2 v16).bind fun v17 =>
      (bin .sub x3 (.int .i64 1)).bind fun v18 =>
      (ixSlice 2 x0 v18).bind fun v19 =>
      (fAddr 0 v19).bind fun v20 =>
      (ldCell p11.2 v20).bind fun v21 =>
      (bin .leq v17 v21).bind fun v22 =>
      ref21_Base.j1 J m0 x0 x3 v22 p11.2) (
      ref21_Base.j1 J m0 x0 x3 (.bool false) p11.2)) := (hJ _ _ _ (by kernel_rfl)).trans (by kernel_rfl)
theorem ref21_Base.j1_eq {call : Cl} {n : Nat} {J : Jn (AEnd × H)} (hJ : ref21_Base.F call n J) (m0 : Nat) (x0 x3 x38 : AV) (h : H) : ref21_Base.j1 J m0 x0 x3 x38 h =
  condV x38 (
    some (AEnd.ret (.bool false), h)) (
    (bin .add x3 (.int .i64 1)).bind fun v23 =>
    ref21_Base.l0 J m0 x0 v23 h) := (hJ _ _ _ (by kernel_rfl)).trans (by kernel_rfl)
noncomputable def ref25_Has.A : FAnn := { nv := 6, mv := [(3, 0)], ld := [], lst := [], obj := [], q := [], raw := [] }
noncomputable def ref25_Has.an : Ann := .mk none .nil (.mk none (.mk none .nil (.mk none (.mk none (.mk (some [(0, 0), (1, 0), (5, 0)]) .nil .nil) .nil) .nil)) .nil)
noncomputable abbrev ref25_Has.c : Code := Try.f29.body.getD .skip
noncomputable def ref25_Has.J (call : Cl) (n : Nat) : Jn (AEnd × H) := realJ Try.prog ref25_Has.A call Try.f29 ref25_Has.an ref25_Has.c n
abbrev ref25_Has.F (call : Cl) (n : Nat) (J : Jn (AEnd × H)) : Prop := JFix Try.prog ref25_Has.A call Try.f29 ref25_Has.an ref25_Has.c n J
def ref25_Has.f (J : Jn (AEnd × H)) (x0 x1 : AV) (h : H) : Option (AEnd × H) := J [] [] ⟨[(0, x0), (1, x1)], [], [], h⟩
def ref25_Has.l0 (J : Jn (AEnd × H)) (m0 : Nat) (x0 x1 x5 : AV) (h : H) : Option (AEnd × H) := J [1, 0, 1, 0] [m0] ⟨[(0, x0), (1, x1), (5, x5)], [(0, 0), (1, 0), (5, 0)], [], h⟩
theorem ref25_Has.f_eq {call : Cl} {n : Nat} {J : Jn (AEnd × H)} (hJ : ref25_Has.F call n J) (x0 x1 : AV) (h : H) : ref25_Has.f J x0 x1 h =
  ref25_Has.l0 J n x0 x1 (.int .i64 0) h := (hJ _ _ _ (by kernel_rfl)).trans (by kernel_rfl)
theorem ref25_Has.l0_eq {call : Cl} {n : Nat} {J : Jn (AEnd × H)} (hJ : ref25_Has.F call n J) (m0 : Nat) (x0 x1 x5 : AV) (h : H) : ref25_Has.l0 J (m0 + 1) x0 x1 x5 h =
  (lnSl x0).bind fun v1 =>
  (bin .lss x5 v1).bind fun v2 =>
  condV v2 (
    (ixSlice 2 x0 x5).bind fun v3 =>
    (fAddr 0 v3).bind fun v4 =>
    (ldCell h v4).bind fun v5 =>
    (bin .eql v5 x1).bind fun v6 =>
    condV v6 (
      some (AEnd.ret (.bool true), h)) (
      (bin .add x5 (.int .i64 1)).bind fun v7 =>
      ref25_Has.l0 J m0 x0 x1 v7 h)) (
    some (AEnd.ret (.bool false), h)) := (hJ _ _ _ (by kernel_rfl)).trans (by kernel_rfl)
noncomputable def ref25_Union.A : FAnn := { nv := 7, mv := [(1, 1), (4, 0), (5, 0), (6, 0)], ld := [], lst := [], obj := [], q := [], raw := [] }
noncomputable def ref25_Union.an : Ann := .mk none .nil (.mk none .nil (.mk none (.mk none .nil (.mk none (.mk none (.mk (some [(1, 0), (5, 255), (6, 0)]) .nil .nil) .nil) .nil)) .nil))
noncomputable abbrev ref25_Union.c : Code := Try.f30.body.getD .skip
noncomputable def ref25_Union.J (call : Cl) (n : Nat) : Jn (AEnd × H) := realJ Try.prog ref25_Union.A call Try.f30 ref25_Union.an ref25_Union.c n
abbrev ref25_Union.F (call : Cl) (n : Nat) (J : Jn (AEnd × H)) : Prop := JFix Try.prog ref25_Union.A call Try.f30 ref25_Union.an ref25_Union.c n J
def ref25_Union.f (J : Jn (AEnd × H)) (x0 x1 : AV) (h : H) : Option (AEnd × H) := J [] [] ⟨[(0, x0), (1, x1)], [], [], h⟩
def ref25_Union.l0 (J : Jn (AEnd × H)) (m0 : Nat) (x1 x5 x6 : AV) (h : H) : Option (AEnd × H) := J [1, 1, 0, 1, 0] [m0] ⟨[(1, x1), (5, x5), (6, x6)], [(1, 0), (5, 255), (6, 0)], [], h⟩
theorem ref25_Union.f_eq {call : Cl} {n : Nat} {J : Jn (AEnd × H)} (hJ : ref25_Union.F call n J) (x0 x1 : AV) (h : H) : ref25_Union.f J x0 x1 h =
  (mkRows 2 [.int .u64 0, .str []] 0 []).bind fun v1 =>
  (apSlice 2 24 false false h v1 x0).bind fun v2 =>
  ref25_Union.l0 J n x1 v2 (.int .i64 0) h := (hJ _ _ _ (by kernel_rfl)).trans (by kernel_rfl)
theorem ref25_Union.l0_eq {call : Cl} {n : Nat} {J : Jn (AEnd × H)} (hJ : ref25_Union.F call n J) (m0 : Nat) (x1 x5 x6 : AV) (h : H) : ref25_Union.l0 J (m0 + 1) x1 x5 x6 h =
  (lnSl x1).bind fun v3 =>
  (bin .lss x6 v3).bind fun v4 =>
  condV v4 (
    (ixSlice 2 x1 x6).bind fun v5 =>
    (ldAgg 2 h v5).bind fun v6 =>
    (call n_warrantorref25_put [AV.canon x5, AV.canon v6] h).bind fun p7 => retOr p7.1 (fun r8p => some (AEnd.pan r8p, p7.2)) fun r8 =>
    (bin .add x6 (.int .i64 1)).bind fun v9 =>
    ref25_Union.l0 J m0 x1 r8 v9 p7.2) (
    some (AEnd.ret x5, h)) := (hJ _ _ _ (by kernel_rfl)).trans (by kernel_rfl)
noncomputable def ref25_Less.A : FAnn := { nv := 7, mv := [(4, 0), (6, 0), (7, 0)], ld := [], lst := [], obj := [], q := [], raw := [] }
noncomputable def ref25_Less.an : Ann := .mk none .nil (.mk none .nil (.mk none (.mk none .nil (.mk none (.mk none (.mk (some [(0, 0), (1, 0), (5, 255), (6, 0)]) .nil .nil) .nil) .nil)) .nil))
noncomputable abbrev ref25_Less.c : Code := Try.f31.body.getD .skip
noncomputable def ref25_Less.J (call : Cl) (n : Nat) : Jn (AEnd × H) := realJ Try.prog ref25_Less.A call Try.f31 ref25_Less.an ref25_Less.c n
abbrev ref25_Less.F (call : Cl) (n : Nat) (J : Jn (AEnd × H)) : Prop := JFix Try.prog ref25_Less.A call Try.f31 ref25_Less.an ref25_Less.c n J
def ref25_Less.f (J : Jn (AEnd × H)) (x0 x1 : AV) (h : H) : Option (AEnd × H) := J [] [] ⟨[(0, x0), (1, x1)], [], [], h⟩
def ref25_Less.l0 (J : Jn (AEnd × H)) (m0 : Nat) (x0 x1 x5 x6 : AV) (h : H) : Option (AEnd × H) := J [1, 1, 0, 1, 0] [m0] ⟨[(0, x0), (1, x1), (5, x5), (6, x6)], [(0, 0), (1, 0), (5, 255), (6, 0)], [], h⟩
theorem ref25_Less.f_eq {call : Cl} {n : Nat} {J : Jn (AEnd × H)} (hJ : ref25_Less.F call n J) (x0 x1 : AV) (h : H) : ref25_Less.f J x0 x1 h =
  ref25_Less.l0 J n x0 x1 (.list [] .cap) (.int .i64 0) h := (hJ _ _ _ (by kernel_rfl)).trans (by kernel_rfl)
theorem ref25_Less.l0_eq {call : Cl} {n : Nat} {J : Jn (AEnd × H)} (hJ : ref25_Less.F call n J) (m0 : Nat) (x0 x1 x5 x6 : AV) (h : H) : ref25_Less.l0 J (m0 + 1) x0 x1 x5 x6 h =
  (lnSl x0).bind fun v1 =>
  (bin .lss x6 v1).bind fun v2 =>
  condV v2 (
    (ixSlice 2 x0 x6).bind fun v3 =>
    (fAddr 0 v3).bind fun v4 =>
    (ldCell h v4).bind fun v5 =>
    (call n_warrantorref25_Has [AV.canon x1, AV.canon v5] h).bind fun p6 => retOr p6.1 (fun r7p => some (AEnd.pan r7p, p6.2)) fun r7 =>
    (unOp .not r7).bind fun v8 =>
    condV v8 (
      (ixSlice 2 x0 x6).bind fun v9 =>
      (ldAgg 2 p6.2 v9).bind fun v10 =>
      (mkRows 2 [.int .u64 0, .str []] 1 [(0, v10)]).bind fun v11 =>
      (apSlice 2 24 false true p6.2 x5 v11).bind fun v12 =>
      (bin .add x6 (.int .i64 1)).bind fun v13 =>
      ref25_Less.l0 J m0 x0 x1 v12 v13 p6.2) (
      (bin .add x6 (.int .i64 1)).bind fun v14 =>
      ref25_Less.l0 J m0 x0 x1 x5 v14 p6.2)) (
    some (AEnd.ret x5, h)) := (hJ _ _ _ (by kernel_rfl)).trans (by kernel_rfl)
noncomputable def ref17_Cmp.A : FAnn := { nv := 7, mv := [(4, 0), (6, 0), (6, 1)], ld := [], lst := [], obj := [], q := [55, 56], raw := [] }
noncomputable def ref17_Cmp.an : Ann := .mk none .nil (.mk none .nil (.mk none (.mk none .nil (.mk none (.mk none (.mk (some [(5, 0), (6, 0)]) .nil .nil) .nil) .nil)) .nil))
noncomputable abbrev ref17_Cmp.c : Code := Try.f32.body.getD .skip
noncomputable def ref17_Cmp.J (call : Cl) (n : Nat) : Jn (AEnd × H) := realJ Try.prog ref17_Cmp.A call Try.f32 ref17_Cmp.an ref17_Cmp.c n
abbrev ref17_Cmp.F (call : Cl) (n : Nat) (J : Jn (AEnd × H)) : Prop := JFix Try.prog ref17_Cmp.A call Try.f32 ref17_Cmp.an ref17_Cmp.c n J
def ref17_Cmp.f (J : Jn (AEnd × H)) (x0 x1 : AV) (h : H) : Option (AEnd × H) := J [] [] ⟨[(0, x0), (1, x1)], [], [], h⟩
def ref17_Cmp.l0 (J : Jn (AEnd × H)) (m0 : Nat) (x5 x6 : AV) (h : H) : Option (AEnd × H) := J [1, 1, 0, 1, 0] [m0] ⟨[(5, x5), (6, x6)], [(5, 0), (6, 0)], [], h⟩
theorem ref17_Cmp.f_eq {call : Cl} {n : Nat} {J : Jn (AEnd × H)} (hJ : ref17_Cmp.F call n J) (x0 x1 : AV) (h : H) : ref17_Cmp.f J x0 x1 h =
  (bx h (AV.copy x0)).bind fun p1 =>
  (bx p1.2 (AV.copy x1)).bind fun p2 =>
  (fAddr 3 p1.1).bind fun v3 =>
  (ldCell p2.2 v3).bind fun v4 =>
  (fAddr 3 p2.1).bind fun v5 =>
  (ldCell p2.2 v5).bind fun v6 =>
  (call n_warrantorref17_sign [AV.canon v4, AV.canon v6] p2.2).bind fun p7 => retOr p7.1 (fun _ => none) fun r8 =>
  (fAddr 4 p1.1).bind fun v9 =>
  (ldCell p7.2 v9).bind fun v10 =>
  (fAddr 4 p2.1).bind fun v11 =>
  (ldCell p7.2 v11).bind fun v12 =>
  (call n_warrantorref17_number [AV.canon v10, AV.canon v12] p7.2).bind fun p13 => retOr p13.1 (fun _ => none) fun r14 =>
  (fAddr 2 p1.1).bind fun v15 =>
  (ldCell p13.2 v15).bind fun v16 =>
  (fAddr 2 p2.1).bind fun v17 =>
  (ldCell p13.2 v17).bind fun v18 =>
  (call n_warrantorref17_sign [AV.canon v16, AV.canon v18] p13.2).bind fun p19 => retOr p19.1 (fun _ => none) fun r20 =>
  (fAddr 0 p1.1).bind fun v21 =>
  (ldCell p19.2 v21).bind fun v22 =>
  (fAddr 0 p2.1).bind fun v23 =>
  (ldCell p19.2 v23).bind fun v24 =>
  (call n_warrantorref17_number [AV.canon v22, AV.canon v24] p19.2).bind fun p25 => retOr p25.1 (fun _ => none) fun r26 =>
  (fAddr 5 p1.1).bind fun v27 =>
  (ldCell p25.2 v27).bind fun v28 =>
  (fAddr 5 p2.1).bind fun v29 =>
  (ldCell p25.2 v29).bind fun v30 =>
  (call n_warrantorref17_sign [AV.canon v28, AV.canon v30] p25.2).bind fun p31 => retOr p31.1 (fun _ => none) fun r32 =>
  (fAddr 1 p1.1).bind fun v33 =>
  (ldCell p31.2 v33).bind fun v34 =>
  (fAddr 1 p2.1).bind fun v35 =>
  (ldCell p31.2 v35).bind fun v36 =>
  (call n_warrantorref17_number [AV.canon v34, AV.canon v36] p31.2).bind fun p37 => retOr p37.1 (fun _ => none) fun r38 =>
  (mkRows 1 [.int .i64 0] 6 [(0, r8), (1, r14), (2, r20), (3, r26), (4, r32), (5, r38)]).bind fun v39 =>
  ref17_Cmp.l0 J n v39 (.int .i64 0) p37.2 := (hJ _ _ _ (by kernel_rfl)).trans (by kernel_rfl)
theorem ref17_Cmp.l0_eq {call : Cl} {n : Nat} {J : Jn (AEnd × H)} (hJ : ref17_Cmp.F call n J) (m0 : Nat) (x5 x6 : AV) (h : H) : ref17_Cmp.l0 J (m0 + 1) x5 x6 h =
  (lnSl x5).bind fun v40 =>
  (bin .lss x6 v40).bind fun v41 =>
  condV v41 (
    (ixSlice 1 x5 x6).bind fun v42 =>
    (ldCell h v42).bind fun v43 =>
    (bin .neq v43 (.int .i64 0)).bind fun v44 =>
    condV v44 (
      (ixSlice 1 x5 x6).bind fun v45 =>
      (ldCell h v45).bind fun v46 =>
      some (AEnd.ret (AV.copy v46), h)) (
      (bin .add x6 (.int .i64 1)).bind fun v47 =>
      ref17_Cmp.l0 J m0 x5 v47 h)) (
    some (AEnd.ret (.int .i64 0), h)) := (hJ _ _ _ (by kernel_rfl)).trans (by kernel_rfl)
noncomputable def ref20_key.A : FAnn := { nv := 2, mv := [], ld := [], lst := [], obj := [], q := [], raw := [] }
noncomputable def ref20_key.an : Ann := .nil
noncomputable abbrev ref20_key.c : Code := Try.f33.body.getD .skip
noncomputable def ref20_key.J (call : Cl) (n : Nat) : Jn (AEnd × H) := realJ Try.prog ref20_key.A call Try.f33 ref20_key.an ref20_key.c n
abbrev ref20_key.F (call : Cl) (n : Nat) (J : Jn (AEnd × H)) : Prop := JFix Try.prog ref20_key.A call Try.f33 ref20_key.an ref20_key.c n J
def ref20_key.f (J : Jn (AEnd × H)) (x0 : AV) (h : H) : Option (AEnd × H) := J [] [] ⟨[(0, x0)], [], [], h⟩
theorem ref20_key.f_eq {call : Cl} {n : Nat} {J : Jn (AEnd × H)} (hJ : ref20_key.F call n J) (x0 : AV) (h : H) : ref20_key.f J x0 h =
  (bx h (AV.copy x0)).bind fun p1 =>
  (fAddr 0 p1.1).bind fun v2 =>
  (ldCell p1.2 v2).bind fun v3 =>
  (fAddr 2 p1.1).bind fun v4 =>
  (ldCell p1.2 v4).bind fun v5 =>
  (fAddr 5 p1.1).bind fun v6 =>
  (ldCell p1.2 v6).bind fun v7 =>
  (call n_warrantorref18_Key [AV.canon v3, AV.canon v5, AV.canon v7] p1.2).bind fun p8 => retOr p8.1 (fun r9p => some (AEnd.pan r9p, p8.2)) fun r9 =>
  (bytesStr p8.2 r9).bind fun v10 =>
  some (AEnd.ret v10, p8.2) := (hJ _ _ _ (by kernel_rfl)).trans (by kernel_rfl)
noncomputable def fnv_More.A : FAnn := { nv := 7, mv := [(1, 0), (4, 0), (4, 1), (6, 0)], ld := [], lst := [], obj := [], q := [], raw := [] }
noncomputable def fnv_More.an : Ann := .mk none .nil (.mk none (.mk none .nil (.mk none (.mk none (.mk (some [(0, 0), (7, 0), (8, 0), (9, 0)]) .nil .nil) .nil) .nil)) .nil)
noncomputable abbrev fnv_More.c : Code := Try.f34.body.getD .skip
noncomputable def fnv_More.J (call : Cl) (n : Nat) : Jn (AEnd × H) := realJ Try.prog fnv_More.A call Try.f34 fnv_More.an fnv_More.c n
abbrev fnv_More.F (call : Cl) (n : Nat) (J : Jn (AEnd × H)) : Prop := JFix Try.prog fnv_More.A call Try.f34 fnv_More.an fnv_More.c n J
def fnv_More.f (J : Jn (AEnd × H)) (x0 x1 : AV) (h : H) : Option (AEnd × H) := J [] [] ⟨[(0, x0), (1, x1)], [], [], h⟩
def fnv_More.l0 (J : Jn (AEnd × H)) (m0 : Nat) (x0 x7 x8 x9 : AV) (h : H) : Option (AEnd × H) := J [1, 0, 1, 0] [m0] ⟨[(0, x0), (7, x7), (8, x8), (9, x9)], [(0, 0), (7, 0), (8, 0), (9, 0)], [], h⟩
theorem fnv_More.f_eq {call : Cl} {n : Nat} {J : Jn (AEnd × H)} (hJ : fnv_More.F call n J) (x0 x1 : AV) (h : H) : fnv_More.f J x0 x1 h =
  (lnSl x1).bind fun v1 =>
  fnv_More.l0 J n x0 x1 v1 (.int .i64 0) h := (hJ _ _ _ (by kernel_rfl)).trans (by kernel_rfl)
theorem fnv_More.l0_eq {call : Cl} {n : Nat} {J : Jn (AEnd × H)} (hJ : fnv_More.F call n J) (m0 : Nat) (x0 x7 x8 x9 : AV) (h : H) : fnv_More.l0 J (m0 + 1) x0 x7 x8 x9 h =
  (bin .lss x9 x8).bind fun v2 =>
  condV v2 (
    (ixSlice 1 x7 x9).bind fun v3 =>
    (ldCell h v3).bind fun v4 =>
    (cvInt .u64 v4).bind fun v5 =>
    (bin .xor x0 v5).bind fun v6 =>
    (bin .mul v6 (.int .u64 1099511628211)).bind fun v7 =>
    (bin .add x9 (.int .i64 1)).bind fun v8 =>
    fnv_More.l0 J m0 v7 x7 x8 v8 h) (
    some (AEnd.ret (AV.copy x0), h)) := (hJ _ _ _ (by kernel_rfl)).trans (by kernel_rfl)
noncomputable def fnv_Sum.A : FAnn := { nv := 2, mv := [(1, 0)], ld := [], lst := [], obj := [], q := [], raw := [] }
noncomputable def fnv_Sum.an : Ann := .nil
noncomputable abbrev fnv_Sum.c : Code := Try.f35.body.getD .skip
noncomputable def fnv_Sum.J (call : Cl) (n : Nat) : Jn (AEnd × H) := realJ Try.prog fnv_Sum.A call Try.f35 fnv_Sum.an fnv_Sum.c n
abbrev fnv_Sum.F (call : Cl) (n : Nat) (J : Jn (AEnd × H)) : Prop := JFix Try.prog fnv_Sum.A call Try.f35 fnv_Sum.an fnv_Sum.c n J
def fnv_Sum.f (J : Jn (AEnd × H)) (x0 : AV) (h : H) : Option (AEnd × H) := J [] [] ⟨[(0, x0)], [], [], h⟩
theorem fnv_Sum.f_eq {call : Cl} {n : Nat} {J : Jn (AEnd × H)} (hJ : fnv_Sum.F call n J) (x0 : AV) (h : H) : fnv_Sum.f J x0 h =
  (call n_fnv_More [AV.canon (.int .u64 14695981039346656037), AV.canon x0] h).bind fun p1 => retOr p1.1 (fun r2p => some (AEnd.pan r2p, p1.2)) fun r2 =>
  some (AEnd.ret r2, p1.2) := (hJ _ _ _ (by kernel_rfl)).trans (by kernel_rfl)
noncomputable def finger_key.A : FAnn := { nv := 2, mv := [], ld := [], lst := [], obj := [], q := [], raw := [] }
noncomputable def finger_key.an : Ann := .nil
noncomputable abbrev finger_key.c : Code := Try.f36.body.getD .skip
noncomputable def finger_key.J (call : Cl) (n : Nat) : Jn (AEnd × H) := realJ Try.prog finger_key.A call Try.f36 finger_key.an finger_key.c n
abbrev finger_key.F (call : Cl) (n : Nat) (J : Jn (AEnd × H)) : Prop := JFix Try.prog finger_key.A call Try.f36 finger_key.an finger_key.c n J
def finger_key.f (J : Jn (AEnd × H)) (x0 : AV) (h : H) : Option (AEnd × H) := J [] [] ⟨[(0, x0)], [], [], h⟩
theorem finger_key.f_eq {call : Cl} {n : Nat} {J : Jn (AEnd × H)} (hJ : finger_key.F call n J) (x0 : AV) (h : H) : finger_key.f J x0 h =
  (bx h (AV.copy x0)).bind fun p1 =>
  (fAddr 0 p1.1).bind fun v2 =>
  (ldCell p1.2 v2).bind fun v3 =>
  (fAddr 2 p1.1).bind fun v4 =>
  (ldCell p1.2 v4).bind fun v5 =>
  (fAddr 5 p1.1).bind fun v6 =>
  (ldCell p1.2 v6).bind fun v7 =>
  (call n_norm_Key [AV.canon v3, AV.canon v5, AV.canon v7] p1.2).bind fun p8 => retOr p8.1 (fun r9p => some (AEnd.pan r9p, p8.2)) fun r9 =>
  some (AEnd.ret r9, p8.2) := (hJ _ _ _ (by kernel_rfl)).trans (by kernel_rfl)
noncomputable def leb_Put.A : FAnn := { nv := 4, mv := [(3, 0), (4, 0), (5, 0), (5, 1)], ld := [], lst := [(1, 0)], obj := [], q := [], raw := [] }
noncomputable def leb_Put.an : Ann := .mk none .nil (.mk none .nil (.mk none (.mk none (.mk none (.mk (some [(0, 0), (3, 255)]) .nil .nil) .nil) .nil) .nil))
noncomputable abbrev leb_Put.c : Code := Try.f37.body.getD .skip
noncomputable def leb_Put.J (call : Cl) (n : Nat) : Jn (AEnd × H) := realJ Try.prog leb_Put.A call Try.f37 leb_Put.an leb_Put.c n
abbrev leb_Put.F (call : Cl) (n : Nat) (J : Jn (AEnd × H)) : Prop := JFix Try.prog leb_Put.A call Try.f37 leb_Put.an leb_Put.c n J
def leb_Put.f (J : Jn (AEnd × H)) (x0 : AV) (h : H) : Option (AEnd × H) := J [] [] ⟨[(0, x0)], [], [], h⟩
def leb_Put.l0 (J : Jn (AEnd × H)) (m0 : Nat) (x0 x3 : AV) (h : H) : Option (AEnd × H) := J [1, 1, 0, 0] [m0] ⟨[(0, x0), (3, x3)], [(0, 0), (3, 255)], [], h⟩
theorem leb_Put.f_eq {call : Cl} {n : Nat} {J : Jn (AEnd × H)} (hJ : leb_Put.F call n J) (x0 : AV) (h : H) : leb_Put.f J x0 h =
  (mkSlice 1 1 [.int .u8 0] true h (.int .i64 0) (.int .i64 10)).bind fun p1 =>
  leb_Put.l0 J n x0 p1.1 p1.2 := (hJ _ _ _ (by kernel_rfl)).trans (by kernel_rfl)
theorem leb_Put.l0_eq {call : Cl} {n : Nat} {J : Jn (AEnd × H)} (hJ : leb_Put.F call n J) (m0 : Nat) (x0 x3 : AV) (h : H) : leb_Put.l0 J (m0 + 1) x0 x3 h =
  (bin .geq x0 (.int .u64 128)).bind fun v2 =>
  condV v2 (
    (cvInt .u8 x0).bind fun v3 =>
    (bin .or v3 (.int .u8 128)).bind fun v4 =>
    (mkRows 1 [.int .u8 0] 1 [(0, v4)]).bind fun v5 =>
    (apSlice 1 1 true true h x3 v5).bind fun v6 =>
    (bin .shr x0 (.int .u64 7)).bind fun v7 =>
    leb_Put.l0 J m0 v7 v6 h) (
    (cvInt .u8 x0).bind fun v8 =>
    (mkRows 1 [.int .u8 0] 1 [(0, v8)]).bind fun v9 =>
    (apSlice 1 1 true true h x3 v9).bind fun v10 =>
    some (AEnd.ret v10, h)) := (hJ _ _ _ (by kernel_rfl)).trans (by kernel_rfl)
noncomputable def ref19_Sum.A : FAnn := { nv := 2, mv := [(1, 0)], ld := [], lst := [], obj := [], q := [], raw := [] }
noncomputable def ref19_Sum.an : Ann := .nil
noncomputable abbrev ref19_Sum.c : Code := Try.f38.body.getD .skip
noncomputable def ref19_Sum.J (call : Cl) (n : Nat) : Jn (AEnd × H) := realJ Try.prog ref19_Sum.A call Try.f38 ref19_Sum.an ref19_Sum.c n
abbrev ref19_Sum.F (call : Cl) (n : Nat) (J : Jn (AEnd × H)) : Prop := JFix Try.prog ref19_Sum.A call Try.f38 ref19_Sum.an ref19_Sum.c n J
def ref19_Sum.f (J : Jn (AEnd × H)) (x0 : AV) (h : H) : Option (AEnd × H) := J [] [] ⟨[(0, x0)], [], [], h⟩
theorem ref19_Sum.f_eq {call : Cl} {n : Nat} {J : Jn (AEnd × H)} (hJ : ref19_Sum.F call n J) (x0 : AV) (h : H) : ref19_Sum.f J x0 h =
  (call n_warrantorref19_More [AV.canon (.int .u64 14695981039346656037), AV.canon x0] h).bind fun p1 => retOr p1.1 (fun r2p => some (AEnd.pan r2p, p1.2)) fun r2 =>
  some (AEnd.ret r2, p1.2) := (hJ _ _ _ (by kernel_rfl)).trans (by kernel_rfl)
noncomputable def ref02_Num.A : FAnn := { nv := 2, mv := [(1, 0)], ld := [], lst := [], obj := [], q := [], raw := [] }
noncomputable def ref02_Num.an : Ann := .nil
noncomputable abbrev ref02_Num.c : Code := Try.f39.body.getD .skip
noncomputable def ref02_Num.J (call : Cl) (n : Nat) : Jn (AEnd × H) := realJ Try.prog ref02_Num.A call Try.f39 ref02_Num.an ref02_Num.c n
abbrev ref02_Num.F (call : Cl) (n : Nat) (J : Jn (AEnd × H)) : Prop := JFix Try.prog ref02_Num.A call Try.f39 ref02_Num.an ref02_Num.c n J
def ref02_Num.f (J : Jn (AEnd × H)) (x0 : AV) (h : H) : Option (AEnd × H) := J [] [] ⟨[(0, x0)], [], [], h⟩
theorem ref02_Num.f_eq {call : Cl} {n : Nat} {J : Jn (AEnd × H)} (hJ : ref02_Num.F call n J) (x0 : AV) (h : H) : ref02_Num.f J x0 h =
  (cvInt .u64 x0).bind fun v1 =>
  (call n_warrantorref01_Put [AV.canon v1] h).bind fun p2 => retOr p2.1 (fun r3p => some (AEnd.pan r3p, p2.2)) fun r3 =>
  some (AEnd.ret r3, p2.2) := (hJ _ _ _ (by kernel_rfl)).trans (by kernel_rfl)
noncomputable def slices_SortStableFunc_int_int.A : FAnn := { nv := 4, mv := [(0, 1), (0, 3)], ld := [], lst := [], obj := [], q := [], raw := [] }
noncomputable def slices_SortStableFunc_int_int.an : Ann := .nil
noncomputable abbrev slices_SortStableFunc_int_int.c : Code := Try.f40.body.getD .skip
noncomputable def slices_SortStableFunc_int_int.J (call : Cl) (n : Nat) : Jn (AEnd × H) := realJ Try.prog slices_SortStableFunc_int_int.A call Try.f40 slices_SortStableFunc_int_int.an slices_SortStableFunc_int_int.c n
abbrev slices_SortStableFunc_int_int.F (call : Cl) (n : Nat) (J : Jn (AEnd × H)) : Prop := JFix Try.prog slices_SortStableFunc_int_int.A call Try.f40 slices_SortStableFunc_int_int.an slices_SortStableFunc_int_int.c n J
def slices_SortStableFunc_int_int.f (J : Jn (AEnd × H)) (x0 x1 : AV) (h : H) : Option (AEnd × H) := J [] [] ⟨[(0, x0), (1, x1)], [], [], h⟩
theorem slices_SortStableFunc_int_int.f_eq {call : Cl} {n : Nat} {J : Jn (AEnd × H)} (hJ : slices_SortStableFunc_int_int.F call n J) (x0 x1 : AV) (h : H) : slices_SortStableFunc_int_int.f J x0 x1 h =
  (lnSl x0).bind fun v1 =>
  (call n_slices_stableCmpFunc_int [AV.canon x0, AV.canon v1, AV.canon x1] h).bind fun p2 => retOr p2.1 (fun r3p => some (AEnd.pan r3p, p2.2)) fun r3 =>
  some (AEnd.ret (.tuple []), p2.2) := (hJ _ _ _ (by kernel_rfl)).trans (by kernel_rfl)
noncomputable def finger_Ranks_c1.A : FAnn := { nv := 5, mv := [(1, 1), (1, 5)], ld := [], lst := [], obj := [], q := [42], raw := [] }
noncomputable def finger_Ranks_c1.an : Ann := .nil
noncomputable abbrev finger_Ranks_c1.c : Code := Try.f41.body.getD .skip
noncomputable def finger_Ranks_c1.J (call : Cl) (n : Nat) : Jn (AEnd × H) := realJ Try.prog finger_Ranks_c1.A call Try.f41 finger_Ranks_c1.an finger_Ranks_c1.c n
abbrev finger_Ranks_c1.F (call : Cl) (n : Nat) (J : Jn (AEnd × H)) : Prop := JFix Try.prog finger_Ranks_c1.A call Try.f41 finger_Ranks_c1.an finger_Ranks_c1.c n J
def finger_Ranks_c1.f (J : Jn (AEnd × H)) (x0 x1 x2 : AV) (h : H) : Option (AEnd × H) := J [] [] ⟨[(0, x0), (1, x1), (2, x2)], [], [], h⟩
theorem finger_Ranks_c1.f_eq {call : Cl} {n : Nat} {J : Jn (AEnd × H)} (hJ : finger_Ranks_c1.F call n J) (x0 x1 x2 : AV) (h : H) : finger_Ranks_c1.f J x0 x1 x2 h =
  (ldCell h x2).bind fun v1 =>
  (ixSlice 6 v1 x0).bind fun v2 =>
  (ldAgg 6 h v2).bind fun v3 =>
  (ldCell h x2).bind fun v4 =>
  (ixSlice 6 v4 x1).bind fun v5 =>
  (ldAgg 6 h v5).bind fun v6 =>
  (call n_alarm_Cmp [AV.canon v3, AV.canon v6] h).bind fun p7 => retOr p7.1 (fun _ => none) fun r8 =>
  some (AEnd.ret (AV.copy r8), p7.2) := (hJ _ _ _ (by kernel_rfl)).trans (by kernel_rfl)
noncomputable def alarm_Cmp.A : FAnn := { nv := 8, mv := [(4, 0), (6, 0)], ld := [], lst := [], obj := [], q := [], raw := [] }
noncomputable def alarm_Cmp.an : Ann := .mk none .nil (.mk none (.mk none .nil (.mk none (.mk none (.mk (some [(2, 0), (3, 0), (8, 255), (9, 0), (10, 0)]) .nil .nil) .nil) .nil)) .nil)
noncomputable abbrev alarm_Cmp.c : Code := Try.f42.body.getD .skip
noncomputable def alarm_Cmp.J (call : Cl) (n : Nat) : Jn (AEnd × H) := realJ Try.prog alarm_Cmp.A call Try.f42 alarm_Cmp.an alarm_Cmp.c n
abbrev alarm_Cmp.F (call : Cl) (n : Nat) (J : Jn (AEnd × H)) : Prop := JFix Try.prog alarm_Cmp.A call Try.f42 alarm_Cmp.an alarm_Cmp.c n J
def alarm_Cmp.f (J : Jn (AEnd × H)) (x0 x1 : AV) (h : H) : Option (AEnd × H) := J [] [] ⟨[(0, x0), (1, x1)], [], [], h⟩
def alarm_Cmp.l0 (J : Jn (AEnd × H)) (m0 : Nat) (x2 x3 x8 x9 x10 : AV) (h : H) : Option (AEnd × H) := J [1, 0, 1, 0] [m0] ⟨[(2, x2), (3, x3), (8, x8), (9, x9), (10, x10)], [(2, 0), (3, 0), (8, 255), (9, 0), (10, 0)], [], h⟩
theorem alarm_Cmp.f_eq {call : Cl} {n : Nat} {J : Jn (AEnd × H)} (hJ : alarm_Cmp.F call n J) (x0 x1 : AV) (h : H) : alarm_Cmp.f J x0 x1 h =
  (bx h (AV.copy x0)).bind fun p1 =>
  (bx p1.2 (AV.copy x1)).bind fun p2 =>
  (call n_alarm_compares [] p2.2).bind fun p3 => retOr p3.1 (fun r4p => some (AEnd.pan r4p, p3.2)) fun r4 =>
  (lnSl r4).bind fun v5 =>
  alarm_Cmp.l0 J n p1.1 p2.1 r4 v5 (.int .i64 0) p3.2 := (hJ _ _ _ (by kernel_rfl)).trans (by kernel_rfl)
theorem alarm_Cmp.l0_eq {call : Cl} {n : Nat} {J : Jn (AEnd × H)} (hJ : alarm_Cmp.F call n J) (m0 : Nat) (x2 x3 x8 x9 x10 : AV) (h : H) : alarm_Cmp.l0 J (m0 + 1) x2 x3 x8 x9 x10 h =
  (bin .lss x10 x9).bind fun v6 =>
  condV v6 (
    (ixSlice 1 x8 x10).bind fun v7 =>
    (ldCell h v7).bind fun v8 =>
    (ldAgg 6 h x2).bind fun v9 =>
    (ldAgg 6 h x3).bind fun v10 =>
    (callVal call h v8 [AV.canon v9, AV.canon v10]).bind fun p11 => retOr p11.1 (fun r12p => some (AEnd.pan r12p, p11.2)) fun r12 =>
    (bin .neq r12 (.int .i64 0)).bind fun v13 =>
    condV v13 (
      some (AEnd.ret r12, p11.2)) (
      (bin .add x10 (.int .i64 1)).bind fun v14 =>
      alarm_Cmp.l0 J m0 x2 x3 x8 x9 v14 p11.2)) (
    some (AEnd.ret (.int .i64 0), h)) := (hJ _ _ _ (by kernel_rfl)).trans (by kernel_rfl)
noncomputable def ref18_word.A : FAnn := { nv := 2, mv := [(1, 0)], ld := [], lst := [], obj := [], q := [], raw := [] }
noncomputable def ref18_word.an : Ann := .nil
noncomputable abbrev ref18_word.c : Code := Try.f44.body.getD .skip
noncomputable def ref18_word.J (call : Cl) (n : Nat) : Jn (AEnd × H) := realJ Try.prog ref18_word.A call Try.f44 ref18_word.an ref18_word.c n
abbrev ref18_word.F (call : Cl) (n : Nat) (J : Jn (AEnd × H)) : Prop := JFix Try.prog ref18_word.A call Try.f44 ref18_word.an ref18_word.c n J
def ref18_word.f (J : Jn (AEnd × H)) (x0 : AV) (h : H) : Option (AEnd × H) := J [] [] ⟨[(0, x0)], [], [], h⟩
theorem ref18_word.f_eq {call : Cl} {n : Nat} {J : Jn (AEnd × H)} (hJ : ref18_word.F call n J) (x0 : AV) (h : H) : ref18_word.f J x0 h =
  (mkRows 1 [.int .u8 0] 1 [(0, x0)]).bind fun v1 =>
  (bytesStr h v1).bind fun v2 =>
  (bin .add (.str [120]) v2).bind fun v3 =>
  (call n_warrantorref11_Name [AV.canon v3] h).bind fun p4 => retOr p4.1 (fun r5p => some (AEnd.pan r5p, p4.2)) fun r5 =>
  some (AEnd.ret r5, p4.2) := (hJ _ _ _ (by kernel_rfl)).trans (by kernel_rfl)
noncomputable def base_Match.A : FAnn := { nv := 10, mv := [(3, 1), (7, 0)], ld := [], lst := [], obj := [], q := [], raw := [] }
noncomputable def base_Match.an : Ann := .nil
noncomputable abbrev base_Match.c : Code := Try.f45.body.getD .skip
noncomputable def base_Match.J (call : Cl) (n : Nat) : Jn (AEnd × H) := realJ Try.prog base_Match.A call Try.f45 base_Match.an base_Match.c n
abbrev base_Match.F (call : Cl) (n : Nat) (J : Jn (AEnd × H)) : Prop := JFix Try.prog base_Match.A call Try.f45 base_Match.an base_Match.c n J
def base_Match.f (J : Jn (AEnd × H)) (x0 x1 : AV) (h : H) : Option (AEnd × H) := J [] [] ⟨[(0, x0), (1, x1)], [], [], h⟩
theorem base_Match.f_eq {call : Cl} {n : Nat} {J : Jn (AEnd × H)} (hJ : base_Match.F call n J) (x0 x1 : AV) (h : H) : base_Match.f J x0 x1 h =
  (bx h (AV.copy x0)).bind fun p1 =>
  let h2 : H := p1.2 ++ [.arr [.list [] .cap, .list [] .cap, .list [] .cap, .list [] .cap] false]
  (ldCell h2 p1.1).bind fun v3 =>
  (call n_result_Base [AV.canon v3] h2).bind fun p4 => retOr p4.1 (fun r5p => some (AEnd.pan r5p, p4.2)) fun r5 =>
  (bin .neq r5 (.int .i64 0)).bind fun v6 =>
  condV v6 (
    (mkAgg [.list [] .cap, .list [] .cap, .list [] .cap, .list [] .cap] []).bind fun v7 =>
    (stN 4 p4.2 (.ptr p1.2.length 0) v7).bind fun p8 =>
    (resN [(ldAgg 4 p8.2 (.ptr p1.2.length 0)).map AV.copy, some r5]).map fun v => (AEnd.ret v, p8.2)) (
    let h9 : H := p4.2 ++ [.arr [.list [] .cap, .list [] .cap, .list [] .cap, .list [] .cap] false]
    let h10 : H := h9 ++ [.map []]
    let h11 : H := h10 ++ [.arr [.nilMap] false]
    (stN 1 h11 (.ptr h10.length 0) (AV.copy (.map h9.length))).bind fun p12 =>
    (call n_finger_Of [AV.canon x1] p12.2).bind fun p13 => retOr p13.1 (fun r14p => some (AEnd.pan r14p, p13.2)) fun r14 =>
    let h15 : H := p13.2 ++ [.arr [.list [] .cap] false]
    (stN 1 h15 (.ptr p13.2.length 0) r14).bind fun p16 =>
    (call n_base_part_api_Alarm [AV.canon x1, AV.canon (.func (.func n_base_Match_c1) [] [AV.copy (.ptr h10.length 0), AV.copy (.ptr p13.2.length 0), AV.copy p1.1])] p16.2).bind fun p17 => retOr p17.1 (fun r18p => some (AEnd.pan r18p, p17.2)) fun r18 =>
    (exTuple 0 r18).bind fun v19 =>
    (exTuple 1 r18).bind fun v20 =>
    (fAddr 0 (.ptr p4.2.length 0)).bind fun v21 =>
    (stN 1 p17.2 v21 v19).bind fun p22 =>
    (fAddr 1 (.ptr p4.2.length 0)).bind fun v23 =>
    (stN 1 p22.2 v23 v20).bind fun p24 =>
    (ldCell p24.2 p1.1).bind fun v25 =>
    (call n_base_part_api_Mark [AV.canon v25, AV.canon (.func (.func n_base_Match_c2) [] [AV.copy (.ptr h10.length 0)])] p24.2).bind fun p26 => retOr p26.1 (fun r27p => some (AEnd.pan r27p, p26.2)) fun r27 =>
    (exTuple 0 r27).bind fun v28 =>
    (exTuple 1 r27).bind fun v29 =>
    (fAddr 2 (.ptr p4.2.length 0)).bind fun v30 =>
    (stN 1 p26.2 v30 v28).bind fun p31 =>
    (fAddr 3 (.ptr p4.2.length 0)).bind fun v32 =>
    (stN 1 p31.2 v32 v29).bind fun p33 =>
    (ldAgg 4 p33.2 (.ptr p4.2.length 0)).bind fun v34 =>
    (stN 4 p33.2 (.ptr p1.2.length 0) (AV.copy v34)).bind fun p35 =>
    (resN [(ldAgg 4 p35.2 (.ptr p1.2.length 0)).map AV.copy, some (.int .i64 0)]).map fun v => (AEnd.ret v, p35.2)) := (hJ _ _ _ (by kernel_rfl)).trans (by kernel_rfl)
noncomputable def base_Of.A : FAnn := { nv := 11, mv := [(3, 0), (6, 0), (9, 0), (12, 0), (12, 1), (14, 0)], ld := [], lst := [], obj := [], q := [], raw := [] }
noncomputable def base_Of.an : Ann := .mk none .nil (.mk none .nil (.mk none .nil (.mk none .nil (.mk none .nil (.mk none .nil (.mk none (.mk none .nil (.mk none (.mk none (.mk (some [(1, 0), (8, 255), (26, 255), (27, 0), (28, 0)]) .nil .nil) .nil) .nil)) .nil))))))
noncomputable abbrev base_Of.c : Code := Try.f46.body.getD .skip
noncomputable def base_Of.J (call : Cl) (n : Nat) : Jn (AEnd × H) := realJ Try.prog base_Of.A call Try.f46 base_Of.an base_Of.c n
abbrev base_Of.F (call : Cl) (n : Nat) (J : Jn (AEnd × H)) : Prop := JFix Try.prog base_Of.A call Try.f46 base_Of.an base_Of.c n J
def base_Of.f (J : Jn (AEnd × H)) (x0 x1 : AV) (h : H) : Option (AEnd × H) := J [] [] ⟨[(0, x0), (1, x1)], [], [], h⟩
def base_Of.l0 (J : Jn (AEnd × H)) (m0 : Nat) (x1 x8 x26 x27 x28 : AV) (h : H) : Option (AEnd × H) := J [1, 1, 1, 1, 1, 1, 0, 1, 0] [m0] ⟨[(1, x1), (8, x8), (26, x26), (27, x27), (28, x28)], [(1, 0), (8, 255), (26, 255), (27, 0), (28, 0)], [], h⟩
theorem base_Of.f_eq {call : Cl} {n : Nat} {J : Jn (AEnd × H)} (hJ : base_Of.F call n J) (x0 x1 : AV) (h : H) : base_Of.f J x0 x1 h =
  (mkAgg [.int .u64 0, .str []] [(1, 1, AV.copy x1)]).bind fun v1 =>
  (mkRows 2 [.int .u64 0, .str []] 1 [(0, v1)]).bind fun v2 =>
  (call n_result_Base [AV.canon v2] h).bind fun p3 => retOr p3.1 (fun r4p => some (AEnd.pan r4p, p3.2)) fun r4 =>
  (bin .neq r4 (.int .i64 0)).bind fun v5 =>
  condV v5 (
    some (AEnd.ret (.tuple [(.list [] .cap), r4]), p3.2)) (
    (lnSl x0).bind fun v6 =>
    (bin .gtr v6 (.int .i64 1024)).bind fun v7 =>
    condV v7 (
      some (AEnd.ret (.tuple [(.list [] .cap), (.int .i64 3)]), p3.2)) (
      (call n_finger_Of [AV.canon x0] p3.2).bind fun p8 => retOr p8.1 (fun r9p => some (AEnd.pan r9p, p8.2)) fun r9 =>
      (call n_slices_Sort_uint64_uint64 [AV.canon r9] p8.2).bind fun p10 => retOr p10.1 (fun r11p => some (AEnd.pan r11p, p10.2)) fun r11 =>
      (call n_slices_Compact_uint64_uint64 [AV.canon r9] p10.2).bind fun p12 => retOr p12.1 (fun r13p => some (AEnd.pan r13p, p12.2)) fun r13 =>
      (lnSl r13).bind fun v14 =>
      base_Of.l0 J n x1 (.list [] .cap) r13 v14 (.int .i64 0) p12.2)) := (hJ _ _ _ (by kernel_rfl)).trans (by kernel_rfl)
theorem base_Of.l0_eq {call : Cl} {n : Nat} {J : Jn (AEnd × H)} (hJ : base_Of.F call n J) (m0 : Nat) (x1 x8 x26 x27 x28 : AV) (h : H) : base_Of.l0 J (m0 + 1) x1 x8 x26 x27 x28 h =
  (bin .lss x28 x27).bind fun v15 =>
  condV v15 (
    (ixSlice 1 x26 x28).bind fun v16 =>
    (ldCell h v16).bind fun v17 =>
    (mkAgg [.int .u64 0, .str []] [(0, 1, AV.copy v17), (1, 1, AV.copy x1)]).bind fun v18 =>
    (mkRows 2 [.int .u64 0, .str []] 1 [(0, v18)]).bind fun v19 =>
    (apSlice 2 24 false true h x8 v19).bind fun v20 =>
    (bin .add x28 (.int .i64 1)).bind fun v21 =>
    base_Of.l0 J m0 x1 v20 x26 x27 v21 h) (
    some (AEnd.ret (.tuple [x8, (.int .i64 0)]), h)) := (hJ _ _ _ (by kernel_rfl)).trans (by kernel_rfl)
noncomputable def base_both.A : FAnn := { nv := 4, mv := [(1, 0), (1, 2)], ld := [], lst := [], obj := [], q := [], raw := [] }
noncomputable def base_both.an : Ann := .nil
noncomputable abbrev base_both.c : Code := Try.f47.body.getD .skip
noncomputable def base_both.J (call : Cl) (n : Nat) : Jn (AEnd × H) := realJ Try.prog base_both.A call Try.f47 base_both.an base_both.c n
abbrev base_both.F (call : Cl) (n : Nat) (J : Jn (AEnd × H)) : Prop := JFix Try.prog base_both.A call Try.f47 base_both.an base_both.c n J
def base_both.f (J : Jn (AEnd × H)) (x0 x1 : AV) (h : H) : Option (AEnd × H) := J [] [] ⟨[(0, x0), (1, x1)], [], [], h⟩
theorem base_both.f_eq {call : Cl} {n : Nat} {J : Jn (AEnd × H)} (hJ : base_both.F call n J) (x0 x1 : AV) (h : H) : base_both.f J x0 x1 h =
  (call n_result_Base [AV.canon x0] h).bind fun p1 => retOr p1.1 (fun r2p => some (AEnd.pan r2p, p1.2)) fun r2 =>
  (call n_result_Base [AV.canon x1] p1.2).bind fun p3 => retOr p3.1 (fun r4p => some (AEnd.pan r4p, p3.2)) fun r4 =>
  (maxMinAll true [r2, r4]).bind fun v5 =>
  some (AEnd.ret (AV.copy v5), p3.2) := (hJ _ _ _ (by kernel_rfl)).trans (by kernel_rfl)
noncomputable def base_part_api_Mark.A : FAnn := { nv := 8, mv := [(1, 0), (4, 1), (5, 0), (6, 0), (8, 0), (8, 1)], ld := [], lst := [], obj := [], q := [], raw := [] }
noncomputable def base_part_api_Mark.an : Ann := .mk none .nil (.mk none (.mk none .nil (.mk none (.mk none (.mk (some [(1, 0), (4, 255), (5, 255), (8, 0), (9, 0), (10, 0)]) .nil .nil) .nil) .nil)) .nil)
noncomputable abbrev base_part_api_Mark.c : Code := Try.f48.body.getD .skip
noncomputable def base_part_api_Mark.J (call : Cl) (n : Nat) : Jn (AEnd × H) := realJ Try.prog base_part_api_Mark.A call Try.f48 base_part_api_Mark.an base_part_api_Mark.c n
abbrev base_part_api_Mark.F (call : Cl) (n : Nat) (J : Jn (AEnd × H)) : Prop := JFix Try.prog base_part_api_Mark.A call Try.f48 base_part_api_Mark.an base_part_api_Mark.c n J
def base_part_api_Mark.f (J : Jn (AEnd × H)) (x0 x1 : AV) (h : H) : Option (AEnd × H) := J [] [] ⟨[(0, x0), (1, x1)], [], [], h⟩
def base_part_api_Mark.l0 (J : Jn (AEnd × H)) (m0 : Nat) (x1 x4 x5 x8 x9 x10 : AV) (h : H) : Option (AEnd × H) := J [1, 0, 1, 0] [m0] ⟨[(1, x1), (4, x4), (5, x5), (8, x8), (9, x9), (10, x10)], [(1, 0), (4, 255), (5, 255), (8, 0), (9, 0), (10, 0)], [], h⟩
theorem base_part_api_Mark.f_eq {call : Cl} {n : Nat} {J : Jn (AEnd × H)} (hJ : base_part_api_Mark.F call n J) (x0 x1 : AV) (h : H) : base_part_api_Mark.f J x0 x1 h =
  (lnSl x0).bind fun v1 =>
  base_part_api_Mark.l0 J n x1 (.list [] .cap) (.list [] .cap) x0 v1 (.int .i64 0) h := (hJ _ _ _ (by kernel_rfl)).trans (by kernel_rfl)
theorem base_part_api_Mark.l0_eq {call : Cl} {n : Nat} {J : Jn (AEnd × H)} (hJ : base_part_api_Mark.F call n J) (m0 : Nat) (x1 x4 x5 x8 x9 x10 : AV) (h : H) : base_part_api_Mark.l0 J (m0 + 1) x1 x4 x5 x8 x9 x10 h =
  (bin .lss x10 x9).bind fun v2 =>
  condV v2 (
    (ixSlice 2 x8 x10).bind fun v3 =>
    (ldAgg 2 h v3).bind fun v4 =>
    let h5 : H := h ++ [.arr [.int .u64 0, .str []] false]
    (stN 2 h5 (.ptr h.length 0) (AV.copy v4)).bind fun p6 =>
    (ldAgg 2 p6.2 (.ptr h.length 0)).bind fun v7 =>
    (callVal call p6.2 x1 [AV.canon x10, AV.canon v7]).bind fun p8 => retOr p8.1 (fun r9p => some (AEnd.pan r9p, p8.2)) fun r9 =>
    condV r9 (
      (ldAgg 2 p8.2 (.ptr h.length 0)).bind fun v10 =>
      (mkRows 2 [.int .u64 0, .str []] 1 [(0, v10)]).bind fun v11 =>
      (apSlice 2 24 false true p8.2 x4 v11).bind fun v12 =>
      (bin .add x10 (.int .i64 1)).bind fun v13 =>
      base_part_api_Mark.l0 J m0 x1 v12 x5 x8 x9 v13 p8.2) (
      (ldAgg 2 p8.2 (.ptr h.length 0)).bind fun v14 =>
      (mkRows 2 [.int .u64 0, .str []] 1 [(0, v14)]).bind fun v15 =>
      (apSlice 2 24 false true p8.2 x5 v15).bind fun v16 =>
      (bin .add x10 (.int .i64 1)).bind fun v17 =>
      base_part_api_Mark.l0 J m0 x1 x4 v16 x8 x9 v17 p8.2)) (
    some (AEnd.ret (.tuple [x4, x5]), h)) := (hJ _ _ _ (by kernel_rfl)).trans (by kernel_rfl)
noncomputable def base_Less_c1.A : FAnn := { nv := 8, mv := [(2, 0)], ld := [], lst := [], obj := [], q := [], raw := [] }
noncomputable def base_Less_c1.an : Ann := .nil
noncomputable abbrev base_Less_c1.c : Code := Try.f49.body.getD .skip
noncomputable def base_Less_c1.J (call : Cl) (n : Nat) : Jn (AEnd × H) := realJ Try.prog base_Less_c1.A call Try.f49 base_Less_c1.an base_Less_c1.c n
abbrev base_Less_c1.F (call : Cl) (n : Nat) (J : Jn (AEnd × H)) : Prop := JFix Try.prog base_Less_c1.A call Try.f49 base_Less_c1.an base_Less_c1.c n J
def base_Less_c1.f (J : Jn (AEnd × H)) (x0 x1 x2 : AV) (h : H) : Option (AEnd × H) := J [] [] ⟨[(0, x0), (1, x1), (2, x2)], [], [], h⟩
theorem base_Less_c1.f_eq {call : Cl} {n : Nat} {J : Jn (AEnd × H)} (hJ : base_Less_c1.F call n J) (x0 x1 x2 : AV) (h : H) : base_Less_c1.f J x0 x1 x2 h =
  (bx h (AV.copy x1)).bind fun p1 =>
  (ldCell p1.2 x2).bind fun v2 =>
  (fAddr 0 p1.1).bind fun v3 =>
  (ldCell p1.2 v3).bind fun v4 =>
  (call n_base_search [AV.canon v2, AV.canon v4] p1.2).bind fun p5 => retOr p5.1 (fun r6p => some (AEnd.pan r6p, p5.2)) fun r6 =>
  (exTuple 0 r6).bind fun v7 =>
  (exTuple 1 r6).bind fun v8 =>
  some (AEnd.ret v8, p5.2) := (hJ _ _ _ (by kernel_rfl)).trans (by kernel_rfl)
noncomputable def base_search.A : FAnn := { nv := 4, mv := [(1, 0), (1, 1)], ld := [], lst := [], obj := [], q := [], raw := [] }
noncomputable def base_search.an : Ann := .nil
noncomputable abbrev base_search.c : Code := Try.f50.body.getD .skip
noncomputable def base_search.J (call : Cl) (n : Nat) : Jn (AEnd × H) := realJ Try.prog base_search.A call Try.f50 base_search.an base_search.c n
abbrev base_search.F (call : Cl) (n : Nat) (J : Jn (AEnd × H)) : Prop := JFix Try.prog base_search.A call Try.f50 base_search.an base_search.c n J
def base_search.f (J : Jn (AEnd × H)) (x0 x1 : AV) (h : H) : Option (AEnd × H) := J [] [] ⟨[(0, x0), (1, x1)], [], [], h⟩
theorem base_search.f_eq {call : Cl} {n : Nat} {J : Jn (AEnd × H)} (hJ : base_search.F call n J) (x0 x1 : AV) (h : H) : base_search.f J x0 x1 h =
  (call n_slices_BinarySearchFunc_api_Mark_api_Mark_uint64 [AV.canon x0, AV.canon x1, AV.canon (.func (.func n_base_search_c1) [] [])] h).bind fun p1 => retOr p1.1 (fun r2p => some (AEnd.pan r2p, p1.2)) fun r2 =>
  (exTuple 0 r2).bind fun v3 =>
  (exTuple 1 r2).bind fun v4 =>
  some (AEnd.ret (.tuple [v3, v4]), p1.2) := (hJ _ _ _ (by kernel_rfl)).trans (by kernel_rfl)
noncomputable def result_Base.A : FAnn := { nv := 5, mv := [(6, 11)], ld := [], lst := [], obj := [], q := [72], raw := [] }
noncomputable def result_Base.an : Ann := .mk none .nil (.mk none .nil (.mk none (.mk none .nil (.mk none (.mk none (.mk (some [(0, 0), (8, 0), (9, 0), (10, 0)]) .nil (.mk none .nil (.mk none (.mk none (.mk none .nil (.mk none .nil (.mk (some [(0, 0), (8, 0), (9, 0), (10, 0), (33, 0)]) .nil .nil))) .nil) .nil))) .nil) .nil)) .nil))
noncomputable abbrev result_Base.c : Code := Try.f51.body.getD .skip
noncomputable def result_Base.J (call : Cl) (n : Nat) : Jn (AEnd × H) := realJ Try.prog result_Base.A call Try.f51 result_Base.an result_Base.c n
abbrev result_Base.F (call : Cl) (n : Nat) (J : Jn (AEnd × H)) : Prop := JFix Try.prog result_Base.A call Try.f51 result_Base.an result_Base.c n J
def result_Base.f (J : Jn (AEnd × H)) (x0 : AV) (h : H) : Option (AEnd × H) := J [] [] ⟨[(0, x0)], [], [], h⟩
def result_Base.l0 (J : Jn (AEnd × H)) (m0 : Nat) (x0 x8 x9 x10 : AV) (h : H) : Option (AEnd × H) := J [1, 1, 0, 1, 0] [m0] ⟨[(0, x0), (8, x8), (9, x9), (10, x10)], [(0, 0), (8, 0), (9, 0), (10, 0)], [], h⟩
def result_Base.j0 (J : Jn (AEnd × H)) (m0 : Nat) (x0 x8 x9 x10 x33 : AV) (h : H) : Option (AEnd × H) := J [1, 1, 0, 1, 0, 0, 1, 1, 0, 0, 1, 1] [m0] ⟨[(0, x0), (8, x8), (9, x9), (10, x10), (33, x33)], [(0, 0), (8, 0), (9, 0), (10, 0), (33, 0)], [], h⟩
theorem result_Base.f_eq {call : Cl} {n : Nat} {J : Jn (AEnd × H)} (hJ : result_Base.F call n J) (x0 : AV) (h : H) : result_Base.f J x0 h =
  (lnSl x0).bind fun v1 =>
  (bin .gtr v1 (.int .i64 1024)).bind fun v2 =>
  condV v2 (
    some (AEnd.ret (.int .i64 210), h)) (
    (lnSl x0).bind fun v3 =>
    result_Base.l0 J n x0 x0 v3 (.int .i64 0) h) := (hJ _ _ _ (by kernel_rfl)).trans (by kernel_rfl)
theorem result_Base.l0_eq {call : Cl} {n : Nat} {J : Jn (AEnd × H)} (hJ : result_Base.F call n J) (m0 : Nat) (x0 x8 x9 x10 : AV) (h : H) : result_Base.l0 J (m0 + 1) x0 x8 x9 x10 h =
  (bin .lss x10 x9).bind fun v4 =>
  condV v4 (
    (ixSlice 2 x8 x10).bind fun v5 =>
    (ldAgg 2 h v5).bind fun v6 =>
    let h7 : H := h ++ [.arr [.int .u64 0, .str []] false]
    (stN 2 h7 (.ptr h.length 0) (AV.copy v6)).bind fun p8 =>
    (fAddr 1 (.ptr h.length 0)).bind fun v9 =>
    (ldCell p8.2 v9).bind fun v10 =>
    (call n_result_note [AV.canon v10] p8.2).bind fun p11 => retOr p11.1 (fun _ => none) fun r12 =>
    (unOp .not r12).bind fun v13 =>
    condV v13 (
      result_Base.j0 J m0 x0 x8 x9 x10 (.bool true) p11.2) (
      (bin .gtr x10 (.int .i64 0)).bind fun v14 =>
      condV v14 (
        (fAddr 0 (.ptr h.length 0)).bind fun v15 =>
        (ldCell p11.2 v15).bind fun v16 =>
        (bin .sub x10 (.int .i64 1)).bind fun v17 =>
        (ixSlice 2 x0 v17).bind fun v18 =>
        (fAddr 0 v18).bind fun v19 =>
        (ldCell p11.2 v19).bind fun v20 =>
        (bin .leq v16 v20).bind fun v21 =>
        result_Base.j0 J m0 x0 x8 x9 x10 v21 p11.2) (
        result_Base.j0 J m0 x0 x8 x9 x10 (.bool false) p11.2))) (
    some (AEnd.ret (.int .i64 0), h)) := (hJ _ _ _ (by kernel_rfl)).trans (by kernel_rfl)
theorem result_Base.j0_eq {call : Cl} {n : Nat} {J : Jn (AEnd × H)} (hJ : result_Base.F call n J) (m0 : Nat) (x0 x8 x9 x10 x33 : AV) (h : H) : result_Base.j0 J m0 x0 x8 x9 x10 x33 h =
  condV x33 (
    some (AEnd.ret (.int .i64 210), h)) (
    (bin .add x10 (.int .i64 1)).bind fun v22 =>
    result_Base.l0 J m0 x0 x8 x9 v22 h) := (hJ _ _ _ (by kernel_rfl)).trans (by kernel_rfl)
noncomputable def slices_Equal_api_Mark_api_Mark.A : FAnn := { nv := 6, mv := [(6, 5)], ld := [], lst := [], obj := [], q := [], raw := [] }
noncomputable def slices_Equal_api_Mark_api_Mark.an : Ann := .mk none .nil (.mk none .nil (.mk none (.mk none .nil (.mk none (.mk none (.mk (some [(0, 0), (1, 0), (12, 0), (13, 0)]) .nil .nil) .nil) .nil)) .nil))
noncomputable abbrev slices_Equal_api_Mark_api_Mark.c : Code := Try.f52.body.getD .skip
noncomputable def slices_Equal_api_Mark_api_Mark.J (call : Cl) (n : Nat) : Jn (AEnd × H) := realJ Try.prog slices_Equal_api_Mark_api_Mark.A call Try.f52 slices_Equal_api_Mark_api_Mark.an slices_Equal_api_Mark_api_Mark.c n
abbrev slices_Equal_api_Mark_api_Mark.F (call : Cl) (n : Nat) (J : Jn (AEnd × H)) : Prop := JFix Try.prog slices_Equal_api_Mark_api_Mark.A call Try.f52 slices_Equal_api_Mark_api_Mark.an slices_Equal_api_Mark_api_Mark.c n J
def slices_Equal_api_Mark_api_Mark.f (J : Jn (AEnd × H)) (x0 x1 : AV) (h : H) : Option (AEnd × H) := J [] [] ⟨[(0, x0), (1, x1)], [], [], h⟩
def slices_Equal_api_Mark_api_Mark.l0 (J : Jn (AEnd × H)) (m0 : Nat) (x0 x1 x12 x13 : AV) (h : H) : Option (AEnd × H) := J [1, 1, 0, 1, 0] [m0] ⟨[(0, x0), (1, x1), (12, x12), (13, x13)], [(0, 0), (1, 0), (12, 0), (13, 0)], [], h⟩
theorem slices_Equal_api_Mark_api_Mark.f_eq {call : Cl} {n : Nat} {J : Jn (AEnd × H)} (hJ : slices_Equal_api_Mark_api_Mark.F call n J) (x0 x1 : AV) (h : H) : slices_Equal_api_Mark_api_Mark.f J x0 x1 h =
  (lnSl x0).bind fun v1 =>
  (lnSl x1).bind fun v2 =>
  (bin .neq v1 v2).bind fun v3 =>
  condV v3 (
    some (AEnd.ret (.bool false), h)) (
    (lnSl x0).bind fun v4 =>
    slices_Equal_api_Mark_api_Mark.l0 J n x0 x1 v4 (.int .i64 0) h) := (hJ _ _ _ (by kernel_rfl)).trans (by kernel_rfl)
theorem slices_Equal_api_Mark_api_Mark.l0_eq {call : Cl} {n : Nat} {J : Jn (AEnd × H)} (hJ : slices_Equal_api_Mark_api_Mark.F call n J) (m0 : Nat) (x0 x1 x12 x13 : AV) (h : H) : slices_Equal_api_Mark_api_Mark.l0 J (m0 + 1) x0 x1 x12 x13 h =
  (bin .lss x13 x12).bind fun v5 =>
  condV v5 (
    (ixSlice 2 x0 x13).bind fun v6 =>
    (ldAgg 2 h v6).bind fun v7 =>
    (ixSlice 2 x1 x13).bind fun v8 =>
    (ldAgg 2 h v8).bind fun v9 =>
    (eqv true (aeq Try.prog 20 t_api_Mark v7 v9)).bind fun v10 =>
    condV v10 (
      some (AEnd.ret (.bool false), h)) (
      (bin .add x13 (.int .i64 1)).bind fun v11 =>
      slices_Equal_api_Mark_api_Mark.l0 J m0 x0 x1 x12 v11 h)) (
    some (AEnd.ret (.bool true), h)) := (hJ _ _ _ (by kernel_rfl)).trans (by kernel_rfl)
noncomputable def ref21_Note.A : FAnn := { nv := 2, mv := [(1, 8)], ld := [], lst := [], obj := [], q := [], raw := [] }
noncomputable def ref21_Note.an : Ann := .nil
noncomputable abbrev ref21_Note.c : Code := Try.f53.body.getD .skip
noncomputable def ref21_Note.J (call : Cl) (n : Nat) : Jn (AEnd × H) := realJ Try.prog ref21_Note.A call Try.f53 ref21_Note.an ref21_Note.c n
abbrev ref21_Note.F (call : Cl) (n : Nat) (J : Jn (AEnd × H)) : Prop := JFix Try.prog ref21_Note.A call Try.f53 ref21_Note.an ref21_Note.c n J
def ref21_Note.f (J : Jn (AEnd × H)) (x0 : AV) (h : H) : Option (AEnd × H) := J [] [] ⟨[(0, x0)], [], [], h⟩
theorem ref21_Note.f_eq {call : Cl} {n : Nat} {J : Jn (AEnd × H)} (hJ : ref21_Note.F call n J) (x0 : AV) (h : H) : ref21_Note.f J x0 h =
  (lnStr x0).bind fun v1 =>
  (bin .eql v1 (.int .i64 0)).bind fun v2 =>
  condV v2 (
    some (AEnd.ret (AV.copy (.bool true)), h)) (
    (lnStr x0).bind fun v3 =>
    (bin .leq v3 (.int .i64 64)).bind fun v4 =>
    condV v4 (
      (call n_warrantorref17_Expr [AV.canon x0] h).bind fun p5 => retOr p5.1 (fun r6p => some (AEnd.pan r6p, p5.2)) fun r6 =>
      some (AEnd.ret (AV.copy r6), p5.2)) (
      some (AEnd.ret (AV.copy (.bool false)), h))) := (hJ _ _ _ (by kernel_rfl)).trans (by kernel_rfl)
noncomputable def ref25_put.A : FAnn := { nv := 7, mv := [(3, 0), (6, 1), (7, 0), (9, 0), (9, 2), (9, 7)], ld := [], lst := [], obj := [], q := [], raw := [] }
noncomputable def ref25_put.an : Ann := .mk none .nil (.mk none .nil (.mk none (.mk none (.mk none (.mk (some [(0, 0), (3, 0), (5, 0)]) .nil .nil) .nil) .nil) (.mk none (.mk none .nil (.mk (some [(0, 0), (3, 0), (5, 0), (36, 0)]) .nil .nil)) (.mk (some [(0, 0), (3, 0), (5, 0)]) .nil .nil))))
noncomputable abbrev ref25_put.c : Code := Try.f54.body.getD .skip
noncomputable def ref25_put.J (call : Cl) (n : Nat) : Jn (AEnd × H) := realJ Try.prog ref25_put.A call Try.f54 ref25_put.an ref25_put.c n
abbrev ref25_put.F (call : Cl) (n : Nat) (J : Jn (AEnd × H)) : Prop := JFix Try.prog ref25_put.A call Try.f54 ref25_put.an ref25_put.c n J
def ref25_put.f (J : Jn (AEnd × H)) (x0 x1 : AV) (h : H) : Option (AEnd × H) := J [] [] ⟨[(0, x0), (1, x1)], [], [], h⟩
def ref25_put.l0 (J : Jn (AEnd × H)) (m0 : Nat) (x0 x3 x5 : AV) (h : H) : Option (AEnd × H) := J [1, 1, 0, 0] [m0] ⟨[(0, x0), (3, x3), (5, x5)], [(0, 0), (3, 0), (5, 0)], [], h⟩
def ref25_put.j1 (J : Jn (AEnd × H)) (x0 x3 x5 x36 : AV) (h : H) : Option (AEnd × H) := J [1, 1, 1, 0, 1] [] ⟨[(0, x0), (3, x3), (5, x5), (36, x36)], [(0, 0), (3, 0), (5, 0), (36, 0)], [], h⟩
def ref25_put.j0 (J : Jn (AEnd × H)) (x0 x3 x5 : AV) (h : H) : Option (AEnd × H) := J [1, 1, 1, 1] [] ⟨[(0, x0), (3, x3), (5, x5)], [(0, 0), (3, 0), (5, 0)], [], h⟩
theorem ref25_put.f_eq {call : Cl} {n : Nat} {J : Jn (AEnd × H)} (hJ : ref25_put.F call n J) (x0 x1 : AV) (h : H) : ref25_put.f J x0 x1 h =
  (bx h (AV.copy x1)).bind fun p1 =>
  ref25_put.l0 J n x0 p1.1 (.int .i64 0) p1.2 := (hJ _ _ _ (by kernel_rfl)).trans (by kernel_rfl)
theorem ref25_put.l0_eq {call : Cl} {n : Nat} {J : Jn (AEnd × H)} (hJ : ref25_put.F call n J) (m0 : Nat) (x0 x3 x5 : AV) (h : H) : ref25_put.l0 J (m0 + 1) x0 x3 x5 h =
  (lnSl x0).bind fun v2 =>
  (bin .lss x5 v2).bind fun v3 =>
  condV v3 (
    (ixSlice 2 x0 x5).bind fun v4 =>
    (fAddr 0 v4).bind fun v5 =>
    (ldCell h v5).bind fun v6 =>
    (fAddr 0 x3).bind fun v7 =>
    (ldCell h v7).bind fun v8 =>
    (bin .lss v6 v8).bind fun v9 =>
    condV v9 (
      (bin .add x5 (.int .i64 1)).bind fun v10 =>
      ref25_put.l0 J m0 x0 x3 v10 h) (
      (lnSl x0).bind fun v11 =>
      (bin .lss x5 v11).bind fun v12 =>
      condV v12 (
        (ixSlice 2 x0 x5).bind fun v13 =>
        (fAddr 0 v13).bind fun v14 =>
        (ldCell h v14).bind fun v15 =>
        (fAddr 0 x3).bind fun v16 =>
        (ldCell h v16).bind fun v17 =>
        (bin .eql v15 v17).bind fun v18 =>
        ref25_put.j1 J  x0 x3 x5 v18 h) (
        ref25_put.j1 J  x0 x3 x5 (.bool false) h))) (
    (lnSl x0).bind fun v19 =>
    (bin .lss x5 v19).bind fun v20 =>
    condV v20 (
      (ixSlice 2 x0 x5).bind fun v21 =>
      (fAddr 0 v21).bind fun v22 =>
      (ldCell h v22).bind fun v23 =>
      (fAddr 0 x3).bind fun v24 =>
      (ldCell h v24).bind fun v25 =>
      (bin .eql v23 v25).bind fun v26 =>
      ref25_put.j1 J  x0 x3 x5 v26 h) (
      ref25_put.j1 J  x0 x3 x5 (.bool false) h)) := (hJ _ _ _ (by kernel_rfl)).trans (by kernel_rfl)
theorem ref25_put.j1_eq {call : Cl} {n : Nat} {J : Jn (AEnd × H)} (hJ : ref25_put.F call n J) (x0 x3 x5 x36 : AV) (h : H) : ref25_put.j1 J  x0 x3 x5 x36 h =
  condV x36 (
    (fAddr 1 x3).bind fun v27 =>
    (ldCell h v27).bind fun v28 =>
    (ixSlice 2 x0 x5).bind fun v29 =>
    (fAddr 1 v29).bind fun v30 =>
    (ldCell h v30).bind fun v31 =>
    (bin .gtr v28 v31).bind fun v32 =>
    condV v32 (
      (fAddr 1 x3).bind fun v33 =>
      (ldCell h v33).bind fun v34 =>
      (ixSlice 2 x0 x5).bind fun v35 =>
      (fAddr 1 v35).bind fun v36 =>
      (stN 1 h v36 (AV.copy v34)).bind fun p37 =>
      some (AEnd.ret (AV.copy x0), p37.2)) (
      some (AEnd.ret (AV.copy x0), h))) (
    ref25_put.j0 J  x0 x3 x5 h) := (hJ _ _ _ (by kernel_rfl)).trans (by kernel_rfl)
theorem ref25_put.j0_eq {call : Cl} {n : Nat} {J : Jn (AEnd × H)} (hJ : ref25_put.F call n J) (x0 x3 x5 : AV) (h : H) : ref25_put.j0 J  x0 x3 x5 h =
  (mkRows 2 [.int .u64 0, .str []] 0 []).bind fun v38 =>
  (slSlice 2 x0 (some x5) none none).bind fun v39 =>
  (apSlice 2 24 false false h v38 v39).bind fun v40 =>
  (slSlice 2 x0 none (some x5) (some x5)).bind fun v41 =>
  (ldAgg 2 h x3).bind fun v42 =>
  (mkRows 2 [.int .u64 0, .str []] 1 [(0, v42)]).bind fun v43 =>
  (apSlice 2 24 false false h v41 v43).bind fun v44 =>
  (apSlice 2 24 false true h v44 v40).bind fun v45 =>
  some (AEnd.ret v45, h) := (hJ _ _ _ (by kernel_rfl)).trans (by kernel_rfl)
noncomputable def ref17_sign.A : FAnn := { nv := 4, mv := [(3, 0), (3, 1)], ld := [], lst := [], obj := [], q := [], raw := [] }
noncomputable def ref17_sign.an : Ann := .nil
noncomputable abbrev ref17_sign.c : Code := Try.f55.body.getD .skip
noncomputable def ref17_sign.J (call : Cl) (n : Nat) : Jn (AEnd × H) := realJ Try.prog ref17_sign.A call Try.f55 ref17_sign.an ref17_sign.c n
abbrev ref17_sign.F (call : Cl) (n : Nat) (J : Jn (AEnd × H)) : Prop := JFix Try.prog ref17_sign.A call Try.f55 ref17_sign.an ref17_sign.c n J
def ref17_sign.f (J : Jn (AEnd × H)) (x0 x1 : AV) (h : H) : Option (AEnd × H) := J [] [] ⟨[(0, x0), (1, x1)], [], [], h⟩
theorem ref17_sign.f_eq {call : Cl} {n : Nat} {J : Jn (AEnd × H)} (hJ : ref17_sign.F call n J) (x0 x1 : AV) (h : H) : ref17_sign.f J x0 x1 h =
  (bin .lss x0 x1).bind fun v1 =>
  condV v1 (
    some (AEnd.ret (.int .i64 (-1)), h)) (
    (bin .gtr x0 x1).bind fun v2 =>
    condV v2 (
      some (AEnd.ret (.int .i64 1), h)) (
      some (AEnd.ret (.int .i64 0), h))) := (hJ _ _ _ (by kernel_rfl)).trans (by kernel_rfl)
noncomputable def ref17_number.A : FAnn := { nv := 4, mv := [(3, 0), (3, 1)], ld := [], lst := [], obj := [], q := [], raw := [] }
noncomputable def ref17_number.an : Ann := .nil
noncomputable abbrev ref17_number.c : Code := Try.f56.body.getD .skip
noncomputable def ref17_number.J (call : Cl) (n : Nat) : Jn (AEnd × H) := realJ Try.prog ref17_number.A call Try.f56 ref17_number.an ref17_number.c n
abbrev ref17_number.F (call : Cl) (n : Nat) (J : Jn (AEnd × H)) : Prop := JFix Try.prog ref17_number.A call Try.f56 ref17_number.an ref17_number.c n J
def ref17_number.f (J : Jn (AEnd × H)) (x0 x1 : AV) (h : H) : Option (AEnd × H) := J [] [] ⟨[(0, x0), (1, x1)], [], [], h⟩
theorem ref17_number.f_eq {call : Cl} {n : Nat} {J : Jn (AEnd × H)} (hJ : ref17_number.F call n J) (x0 x1 : AV) (h : H) : ref17_number.f J x0 x1 h =
  (bin .lss x0 x1).bind fun v1 =>
  condV v1 (
    some (AEnd.ret (.int .i64 (-1)), h)) (
    (bin .gtr x0 x1).bind fun v2 =>
    condV v2 (
      some (AEnd.ret (.int .i64 1), h)) (
      some (AEnd.ret (.int .i64 0), h))) := (hJ _ _ _ (by kernel_rfl)).trans (by kernel_rfl)
noncomputable def ref18_Key.A : FAnn := { nv := 6, mv := [(3, 0), (3, 2), (3, 5)], ld := [], lst := [], obj := [], q := [], raw := [] }
noncomputable def ref18_Key.an : Ann := .mk none .nil (.mk none .nil (.mk (some [(0, 0), (1, 0), (2, 0)]) .nil .nil))
noncomputable abbrev ref18_Key.c : Code := Try.f57.body.getD .skip
noncomputable def ref18_Key.J (call : Cl) (n : Nat) : Jn (AEnd × H) := realJ Try.prog ref18_Key.A call Try.f57 ref18_Key.an ref18_Key.c n
abbrev ref18_Key.F (call : Cl) (n : Nat) (J : Jn (AEnd × H)) : Prop := JFix Try.prog ref18_Key.A call Try.f57 ref18_Key.an ref18_Key.c n J
def ref18_Key.f (J : Jn (AEnd × H)) (x0 x1 x2 : AV) (h : H) : Option (AEnd × H) := J [] [] ⟨[(0, x0), (1, x1), (2, x2)], [], [], h⟩
def ref18_Key.j0 (J : Jn (AEnd × H)) (x0 x1 x2 : AV) (h : H) : Option (AEnd × H) := J [1, 1] [] ⟨[(0, x0), (1, x1), (2, x2)], [(0, 0), (1, 0), (2, 0)], [], h⟩
theorem ref18_Key.f_eq {call : Cl} {n : Nat} {J : Jn (AEnd × H)} (hJ : ref18_Key.F call n J) (x0 x1 x2 : AV) (h : H) : ref18_Key.f J x0 x1 x2 h =
  (bin .lss x0 (.int .i64 0)).bind fun v1 =>
  condV v1 (
    ref18_Key.j0 J  (.int .i64 0) x1 x2 h) (
    ref18_Key.j0 J  x0 x1 x2 h) := (hJ _ _ _ (by kernel_rfl)).trans (by kernel_rfl)
theorem ref18_Key.j0_eq {call : Cl} {n : Nat} {J : Jn (AEnd × H)} (hJ : ref18_Key.F call n J) (x0 x1 x2 : AV) (h : H) : ref18_Key.j0 J  x0 x1 x2 h =
  (call n_warrantorref02_Num [AV.canon x0] h).bind fun p2 => retOr p2.1 (fun r3p => some (AEnd.pan r3p, p2.2)) fun r3 =>
  (call n_warrantorref02_Text [AV.canon x1] p2.2).bind fun p4 => retOr p4.1 (fun r5p => some (AEnd.pan r5p, p4.2)) fun r5 =>
  (apSlice 1 1 true true p4.2 r3 r5).bind fun v6 =>
  (call n_warrantorref18_Norm [AV.canon x2] p4.2).bind fun p7 => retOr p7.1 (fun r8p => some (AEnd.pan r8p, p7.2)) fun r8 =>
  (call n_warrantorref02_Text [AV.canon r8] p7.2).bind fun p9 => retOr p9.1 (fun r10p => some (AEnd.pan r10p, p9.2)) fun r10 =>
  (apSlice 1 1 true true p9.2 v6 r10).bind fun v11 =>
  some (AEnd.ret v11, p9.2) := (hJ _ _ _ (by kernel_rfl)).trans (by kernel_rfl)
noncomputable def norm_Key.A : FAnn := { nv := 8, mv := [(2, 1), (3, 1), (4, 1), (5, 0)], ld := [], lst := [], obj := [], q := [], raw := [] }
noncomputable def norm_Key.an : Ann := .nil
noncomputable abbrev norm_Key.c : Code := Try.f58.body.getD .skip
noncomputable def norm_Key.J (call : Cl) (n : Nat) : Jn (AEnd × H) := realJ Try.prog norm_Key.A call Try.f58 norm_Key.an norm_Key.c n
abbrev norm_Key.F (call : Cl) (n : Nat) (J : Jn (AEnd × H)) : Prop := JFix Try.prog norm_Key.A call Try.f58 norm_Key.an norm_Key.c n J
def norm_Key.f (J : Jn (AEnd × H)) (x0 x1 x2 : AV) (h : H) : Option (AEnd × H) := J [] [] ⟨[(0, x0), (1, x1), (2, x2)], [], [], h⟩
theorem norm_Key.f_eq {call : Cl} {n : Nat} {J : Jn (AEnd × H)} (hJ : norm_Key.F call n J) (x0 x1 x2 : AV) (h : H) : norm_Key.f J x0 x1 x2 h =
  (call n_cur_New [] h).bind fun p1 => retOr p1.1 (fun r2p => some (AEnd.pan r2p, p1.2)) fun r2 =>
  (maxMinAll true [x0, .int .i64 0]).bind fun v3 =>
  (cvInt .u64 v3).bind fun v4 =>
  (call n_cur_Pen_U [AV.canon r2, AV.canon v4] p1.2).bind fun p5 => retOr p5.1 (fun r6p => some (AEnd.pan r6p, p5.2)) fun r6 =>
  (call n_cur_Pen_Text [AV.canon r2, AV.canon x1] p5.2).bind fun p7 => retOr p7.1 (fun r8p => some (AEnd.pan r8p, p7.2)) fun r8 =>
  (call n_norm_Norm [AV.canon x2] p7.2).bind fun p9 => retOr p9.1 (fun r10p => some (AEnd.pan r10p, p9.2)) fun r10 =>
  (call n_cur_Pen_Text [AV.canon r2, AV.canon r10] p9.2).bind fun p11 => retOr p11.1 (fun r12p => some (AEnd.pan r12p, p11.2)) fun r12 =>
  (call n_cur_Pen_Bytes [AV.canon r2] p11.2).bind fun p13 => retOr p13.1 (fun r14p => some (AEnd.pan r14p, p13.2)) fun r14 =>
  some (AEnd.ret r14, p13.2) := (hJ _ _ _ (by kernel_rfl)).trans (by kernel_rfl)
noncomputable def ref19_More.A : FAnn := { nv := 6, mv := [(3, 0), (4, 0), (5, 0)], ld := [], lst := [], obj := [], q := [], raw := [] }
noncomputable def ref19_More.an : Ann := .mk none .nil (.mk none (.mk none .nil (.mk none (.mk none (.mk (some [(0, 0), (1, 0), (5, 0)]) .nil .nil) .nil) .nil)) .nil)
noncomputable abbrev ref19_More.c : Code := Try.f59.body.getD .skip
noncomputable def ref19_More.J (call : Cl) (n : Nat) : Jn (AEnd × H) := realJ Try.prog ref19_More.A call Try.f59 ref19_More.an ref19_More.c n
abbrev ref19_More.F (call : Cl) (n : Nat) (J : Jn (AEnd × H)) : Prop := JFix Try.prog ref19_More.A call Try.f59 ref19_More.an ref19_More.c n J
def ref19_More.f (J : Jn (AEnd × H)) (x0 x1 : AV) (h : H) : Option (AEnd × H) := J [] [] ⟨[(0, x0), (1, x1)], [], [], h⟩
def ref19_More.l0 (J : Jn (AEnd × H)) (m0 : Nat) (x0 x1 x5 : AV) (h : H) : Option (AEnd × H) := J [1, 0, 1, 0] [m0] ⟨[(0, x0), (1, x1), (5, x5)], [(0, 0), (1, 0), (5, 0)], [], h⟩
theorem ref19_More.f_eq {call : Cl} {n : Nat} {J : Jn (AEnd × H)} (hJ : ref19_More.F call n J) (x0 x1 : AV) (h : H) : ref19_More.f J x0 x1 h =
  ref19_More.l0 J n x0 x1 (.int .i64 0) h := (hJ _ _ _ (by kernel_rfl)).trans (by kernel_rfl)
theorem ref19_More.l0_eq {call : Cl} {n : Nat} {J : Jn (AEnd × H)} (hJ : ref19_More.F call n J) (m0 : Nat) (x0 x1 x5 : AV) (h : H) : ref19_More.l0 J (m0 + 1) x0 x1 x5 h =
  (lnSl x1).bind fun v1 =>
  (bin .lss x5 v1).bind fun v2 =>
  condV v2 (
    (ixSlice 1 x1 x5).bind fun v3 =>
    (ldCell h v3).bind fun v4 =>
    (cvInt .u64 v4).bind fun v5 =>
    (bin .xor x0 v5).bind fun v6 =>
    (bin .mul v6 (.int .u64 1099511628211)).bind fun v7 =>
    (bin .add x5 (.int .i64 1)).bind fun v8 =>
    ref19_More.l0 J m0 v7 x1 v8 h) (
    some (AEnd.ret (AV.copy x0), h)) := (hJ _ _ _ (by kernel_rfl)).trans (by kernel_rfl)
noncomputable def ref01_Put.A : FAnn := { nv := 4, mv := [(3, 0), (4, 0), (5, 0), (5, 1)], ld := [], lst := [], obj := [], q := [], raw := [] }
noncomputable def ref01_Put.an : Ann := .mk none .nil (.mk none .nil (.mk none (.mk none (.mk none (.mk (some [(0, 0), (3, 255)]) .nil .nil) .nil) .nil) .nil))
noncomputable abbrev ref01_Put.c : Code := Try.f60.body.getD .skip
noncomputable def ref01_Put.J (call : Cl) (n : Nat) : Jn (AEnd × H) := realJ Try.prog ref01_Put.A call Try.f60 ref01_Put.an ref01_Put.c n
abbrev ref01_Put.F (call : Cl) (n : Nat) (J : Jn (AEnd × H)) : Prop := JFix Try.prog ref01_Put.A call Try.f60 ref01_Put.an ref01_Put.c n J
def ref01_Put.f (J : Jn (AEnd × H)) (x0 : AV) (h : H) : Option (AEnd × H) := J [] [] ⟨[(0, x0)], [], [], h⟩
def ref01_Put.l0 (J : Jn (AEnd × H)) (m0 : Nat) (x0 x3 : AV) (h : H) : Option (AEnd × H) := J [1, 1, 0, 0] [m0] ⟨[(0, x0), (3, x3)], [(0, 0), (3, 255)], [], h⟩
theorem ref01_Put.f_eq {call : Cl} {n : Nat} {J : Jn (AEnd × H)} (hJ : ref01_Put.F call n J) (x0 : AV) (h : H) : ref01_Put.f J x0 h =
  ref01_Put.l0 J n x0 (.list [] .cap) h := (hJ _ _ _ (by kernel_rfl)).trans (by kernel_rfl)
theorem ref01_Put.l0_eq {call : Cl} {n : Nat} {J : Jn (AEnd × H)} (hJ : ref01_Put.F call n J) (m0 : Nat) (x0 x3 : AV) (h : H) : ref01_Put.l0 J (m0 + 1) x0 x3 h =
  (bin .geq x0 (.int .u64 128)).bind fun v1 =>
  condV v1 (
    (bin .rem x0 (.int .u64 128)).bind fun v2 =>
    (bin .add v2 (.int .u64 128)).bind fun v3 =>
    (cvInt .u8 v3).bind fun v4 =>
    (mkRows 1 [.int .u8 0] 1 [(0, v4)]).bind fun v5 =>
    (apSlice 1 1 true true h x3 v5).bind fun v6 =>
    (bin .quo x0 (.int .u64 128)).bind fun v7 =>
    ref01_Put.l0 J m0 v7 v6 h) (
    (cvInt .u8 x0).bind fun v8 =>
    (mkRows 1 [.int .u8 0] 1 [(0, v8)]).bind fun v9 =>
    (apSlice 1 1 true true h x3 v9).bind fun v10 =>
    some (AEnd.ret v10, h)) := (hJ _ _ _ (by kernel_rfl)).trans (by kernel_rfl)
noncomputable def slices_stableCmpFunc_int.A : FAnn := { nv := 10, mv := [(3, 1), (5, 0), (6, 1), (10, 2), (12, 0), (15, 1), (15, 2), (16, 0)], ld := [], lst := [], obj := [], q := [], raw := [] }
noncomputable def slices_stableCmpFunc_int.an : Ann := .mk none .nil (.mk none .nil (.mk none (.mk none (.mk none (.mk (some [(0, 0), (1, 0), (2, 0), (6, 255), (7, 0), (8, 0)]) .nil .nil) .nil) .nil) (.mk none .nil (.mk none (.mk none (.mk (some [(0, 0), (1, 0), (2, 0), (6, 0)]) .nil (.mk none (.mk none .nil (.mk none (.mk none (.mk none (.mk (some [(0, 0), (1, 0), (2, 0), (6, 0), (7, 0), (8, 0)]) .nil .nil) .nil) .nil) .nil)) .nil)) .nil) .nil))))
noncomputable abbrev slices_stableCmpFunc_int.c : Code := Try.f61.body.getD .skip
noncomputable def slices_stableCmpFunc_int.J (call : Cl) (n : Nat) : Jn (AEnd × H) := realJ Try.prog slices_stableCmpFunc_int.A call Try.f61 slices_stableCmpFunc_int.an slices_stableCmpFunc_int.c n
abbrev slices_stableCmpFunc_int.F (call : Cl) (n : Nat) (J : Jn (AEnd × H)) : Prop := JFix Try.prog slices_stableCmpFunc_int.A call Try.f61 slices_stableCmpFunc_int.an slices_stableCmpFunc_int.c n J
def slices_stableCmpFunc_int.f (J : Jn (AEnd × H)) (x0 x1 x2 : AV) (h : H) : Option (AEnd × H) := J [] [] ⟨[(0, x0), (1, x1), (2, x2)], [], [], h⟩
def slices_stableCmpFunc_int.l0 (J : Jn (AEnd × H)) (m0 : Nat) (x0 x1 x2 x6 x7 x8 : AV) (h : H) : Option (AEnd × H) := J [1, 1, 0, 0] [m0] ⟨[(0, x0), (1, x1), (2, x2), (6, x6), (7, x7), (8, x8)], [(0, 0), (1, 0), (2, 0), (6, 255), (7, 0), (8, 0)], [], h⟩
def slices_stableCmpFunc_int.l1 (J : Jn (AEnd × H)) (m0 : Nat) (x0 x1 x2 x6 : AV) (h : H) : Option (AEnd × H) := J [1, 1, 1, 1, 0] [m0] ⟨[(0, x0), (1, x1), (2, x2), (6, x6)], [(0, 0), (1, 0), (2, 0), (6, 0)], [], h⟩
def slices_stableCmpFunc_int.l2 (J : Jn (AEnd × H)) (m0 m1 : Nat) (x0 x1 x2 x6 x7 x8 : AV) (h : H) : Option (AEnd × H) := J [1, 1, 1, 1, 0, 0, 1, 0, 1, 0, 0] [m0, m1] ⟨[(0, x0), (1, x1), (2, x2), (6, x6), (7, x7), (8, x8)], [(0, 0), (1, 0), (2, 0), (6, 0), (7, 0), (8, 0)], [], h⟩
theorem slices_stableCmpFunc_int.f_eq {call : Cl} {n : Nat} {J : Jn (AEnd × H)} (hJ : slices_stableCmpFunc_int.F call n J) (x0 x1 x2 : AV) (h : H) : slices_stableCmpFunc_int.f J x0 x1 x2 h =
  slices_stableCmpFunc_int.l0 J n x0 x1 x2 (.int .i64 20) (.int .i64 0) (.int .i64 20) h := (hJ _ _ _ (by kernel_rfl)).trans (by kernel_rfl)
theorem slices_stableCmpFunc_int.l0_eq {call : Cl} {n : Nat} {J : Jn (AEnd × H)} (hJ : slices_stableCmpFunc_int.F call n J) (m0 : Nat) (x0 x1 x2 x6 x7 x8 : AV) (h : H) : slices_stableCmpFunc_int.l0 J (m0 + 1) x0 x1 x2 x6 x7 x8 h =
  (bin .leq x8 x1).bind fun v1 =>
  condV v1 (
    (call n_slices_insertionSortCmpFunc_int [AV.canon x0, AV.canon x7, AV.canon x8, AV.canon x2] h).bind fun p2 => retOr p2.1 (fun r3p => some (AEnd.pan r3p, p2.2)) fun r3 =>
    (bin .add x8 x6).bind fun v4 =>
    slices_stableCmpFunc_int.l0 J m0 x0 x1 x2 x6 x8 v4 p2.2) (
    (call n_slices_insertionSortCmpFunc_int [AV.canon x0, AV.canon x7, AV.canon x1, AV.canon x2] h).bind fun p5 => retOr p5.1 (fun r6p => some (AEnd.pan r6p, p5.2)) fun r6 =>
    slices_stableCmpFunc_int.l1 J n x0 x1 x2 x6 p5.2) := (hJ _ _ _ (by kernel_rfl)).trans (by kernel_rfl)
theorem slices_stableCmpFunc_int.l1_eq {call : Cl} {n : Nat} {J : Jn (AEnd × H)} (hJ : slices_stableCmpFunc_int.F call n J) (m0 : Nat) (x0 x1 x2 x6 : AV) (h : H) : slices_stableCmpFunc_int.l1 J (m0 + 1) x0 x1 x2 x6 h =
  (bin .lss x6 x1).bind fun v7 =>
  condV v7 (
    (bin .mul (.int .i64 2) x6).bind fun v8 =>
    slices_stableCmpFunc_int.l2 J m0 n x0 x1 x2 x6 (.int .i64 0) v8 h) (
    some (AEnd.ret (.tuple []), h)) := (hJ _ _ _ (by kernel_rfl)).trans (by kernel_rfl)
theorem slices_stableCmpFunc_int.l2_eq {call : Cl} {n : Nat} {J : Jn (AEnd × H)} (hJ : slices_stableCmpFunc_int.F call n J) (m0 m1 : Nat) (x0 x1 x2 x6 x7 x8 : AV) (h : H) : slices_stableCmpFunc_int.l2 J m0 (m1 + 1) x0 x1 x2 x6 x7 x8 h =
  (bin .leq x8 x1).bind fun v9 =>
  condV v9 (
    (bin .add x7 x6).bind fun v10 =>
    (call n_slices_symMergeCmpFunc_int [AV.canon x0, AV.canon x7, AV.canon v10, AV.canon x8, AV.canon x2] h).bind fun p11 => retOr p11.1 (fun r12p => some (AEnd.pan r12p, p11.2)) fun r12 =>
    (bin .mul (.int .i64 2) x6).bind fun v13 =>
    (bin .add x8 v13).bind fun v14 =>
    slices_stableCmpFunc_int.l2 J m0 m1 x0 x1 x2 x6 x8 v14 p11.2) (
    (bin .add x7 x6).bind fun v15 =>
    (bin .lss v15 x1).bind fun v16 =>
    condV v16 (
      (call n_slices_symMergeCmpFunc_int [AV.canon x0, AV.canon x7, AV.canon v15, AV.canon x1, AV.canon x2] h).bind fun p17 => retOr p17.1 (fun r18p => some (AEnd.pan r18p, p17.2)) fun r18 =>
      (bin .mul x6 (.int .i64 2)).bind fun v19 =>
      slices_stableCmpFunc_int.l1 J m0 x0 x1 x2 v19 p17.2) (
      (bin .mul x6 (.int .i64 2)).bind fun v20 =>
      slices_stableCmpFunc_int.l1 J m0 x0 x1 x2 v20 h)) := (hJ _ _ _ (by kernel_rfl)).trans (by kernel_rfl)
noncomputable def alarm_compares.A : FAnn := { nv := 1, mv := [], ld := [], lst := [], obj := [], q := [], raw := [] }
noncomputable def alarm_compares.an : Ann := .nil
noncomputable abbrev alarm_compares.c : Code := Try.f62.body.getD .skip
noncomputable def alarm_compares.J (call : Cl) (n : Nat) : Jn (AEnd × H) := realJ Try.prog alarm_compares.A call Try.f62 alarm_compares.an alarm_compares.c n
abbrev alarm_compares.F (call : Cl) (n : Nat) (J : Jn (AEnd × H)) : Prop := JFix Try.prog alarm_compares.A call Try.f62 alarm_compares.an alarm_compares.c n J
def alarm_compares.f (J : Jn (AEnd × H)) (h : H) : Option (AEnd × H) := J [] [] ⟨[], [], [], h⟩
theorem alarm_compares.f_eq {call : Cl} {n : Nat} {J : Jn (AEnd × H)} (hJ : alarm_compares.F call n J) (h : H) : alarm_compares.f J  h =
  (mkRows 1 [.nilFunc] 6 [(0, .func (.func n_alarm_compares_c1) [] []), (1, .func (.func n_alarm_compares_c2) [] []), (2, .func (.func n_alarm_compares_c3) [] []), (3, .func (.func n_alarm_compares_c4) [] []), (4, .func (.func n_alarm_compares_c5) [] []), (5, .func (.func n_alarm_compares_c6) [] [])]).bind fun v1 =>
  some (AEnd.ret (AV.copy v1), h) := (hJ _ _ _ (by kernel_rfl)).trans (by kernel_rfl)
noncomputable def ref11_Name.A : FAnn := { nv := 4, mv := [(3, 0), (6, 9)], ld := [], lst := [], obj := [], q := [], raw := [] }
noncomputable def ref11_Name.an : Ann := .mk none .nil (.mk none (.mk none .nil (.mk none (.mk none (.mk (some [(0, 0), (3, 0)]) .nil .nil) .nil) .nil)) .nil)
noncomputable abbrev ref11_Name.c : Code := Try.f63.body.getD .skip
noncomputable def ref11_Name.J (call : Cl) (n : Nat) : Jn (AEnd × H) := realJ Try.prog ref11_Name.A call Try.f63 ref11_Name.an ref11_Name.c n
abbrev ref11_Name.F (call : Cl) (n : Nat) (J : Jn (AEnd × H)) : Prop := JFix Try.prog ref11_Name.A call Try.f63 ref11_Name.an ref11_Name.c n J
def ref11_Name.f (J : Jn (AEnd × H)) (x0 : AV) (h : H) : Option (AEnd × H) := J [] [] ⟨[(0, x0)], [], [], h⟩
def ref11_Name.l0 (J : Jn (AEnd × H)) (m0 : Nat) (x0 x3 : AV) (h : H) : Option (AEnd × H) := J [1, 0, 1, 0] [m0] ⟨[(0, x0), (3, x3)], [(0, 0), (3, 0)], [], h⟩
theorem ref11_Name.f_eq {call : Cl} {n : Nat} {J : Jn (AEnd × H)} (hJ : ref11_Name.F call n J) (x0 : AV) (h : H) : ref11_Name.f J x0 h =
  ref11_Name.l0 J n x0 (.int .i64 0) h := (hJ _ _ _ (by kernel_rfl)).trans (by kernel_rfl)
theorem ref11_Name.l0_eq {call : Cl} {n : Nat} {J : Jn (AEnd × H)} (hJ : ref11_Name.F call n J) (m0 : Nat) (x0 x3 : AV) (h : H) : ref11_Name.l0 J (m0 + 1) x0 x3 h =
  (lnStr x0).bind fun v1 =>
  (bin .lss x3 v1).bind fun v2 =>
  condV v2 (
    (ixStr x0 x3).bind fun v3 =>
    (call n_warrantorref11_more [AV.canon v3] h).bind fun p4 => retOr p4.1 (fun r5p => some (AEnd.pan r5p, p4.2)) fun r5 =>
    (unOp .not r5).bind fun v6 =>
    condV v6 (
      some (AEnd.ret (.bool false), p4.2)) (
      (bin .add x3 (.int .i64 1)).bind fun v7 =>
      ref11_Name.l0 J m0 x0 v7 p4.2)) (
    (lnStr x0).bind fun v8 =>
    (bin .gtr v8 (.int .i64 0)).bind fun v9 =>
    condV v9 (
      (lnStr x0).bind fun v10 =>
      (bin .leq v10 (.int .i64 32)).bind fun v11 =>
      condV v11 (
        (ixStr x0 (.int .i64 0)).bind fun v12 =>
        (call n_warrantorref11_letter [AV.canon v12] h).bind fun p13 => retOr p13.1 (fun r14p => some (AEnd.pan r14p, p13.2)) fun r14 =>
        some (AEnd.ret (AV.copy r14), p13.2)) (
        some (AEnd.ret (AV.copy (.bool false)), h))) (
      some (AEnd.ret (AV.copy (.bool false)), h))) := (hJ _ _ _ (by kernel_rfl)).trans (by kernel_rfl)
end Go.Proofs.Ytdggnlgklicbdaa
