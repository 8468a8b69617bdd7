import Derived.Test.YtdlnkfghgbddhaaGreatVa5
import Derived.Test.YtdlnkfghgbddhaaGreatProg
import Derived.Test.YtdlnkfghgbddhaaGreatPJN
set_option linter.all false
open Go Go.Ve Go.Proofs
namespace Go.Proofs.YtdlnkfghgbddhaaGreat
set_option maxRecDepth 100000
noncomputable def rec_batch_c1.A : FAnn := { nv := 2, mv := [], ld := [], lst := [], obj := [], q := [], raw := [] }
noncomputable def rec_batch_c1.an : Ann := .nil
noncomputable abbrev rec_batch_c1.c : Code := Tryz.f103.body.getD .skip
noncomputable def rec_batch_c1.J (call : Cl) (n : Nat) : Jn (AEnd × H) := realJ Tryz.prog rec_batch_c1.A call Tryz.f103 rec_batch_c1.an rec_batch_c1.c n
abbrev rec_batch_c1.F (call : Cl) (n : Nat) (J : Jn (AEnd × H)) : Prop := JFix Tryz.prog rec_batch_c1.A call Tryz.f103 rec_batch_c1.an rec_batch_c1.c n J
def rec_batch_c1.f (J : Jn (AEnd × H)) (x0 : AV) (h : H) : Option (AEnd × H) := J [] [] ⟨[(0, x0)], [], [], h⟩
theorem rec_batch_c1.f_eq {call : Cl} {n : Nat} {J : Jn (AEnd × H)} (hJ : rec_batch_c1.F call n J) (x0 : AV) (h : H) : rec_batch_c1.f J x0 h =
  (bx h (AV.copy x0)).bind fun p1 =>
  (ldAgg 11 p1.2 p1.1).bind fun v2 =>
  (call n_rec_Check [AV.canon v2] p1.2).bind fun p3 => retOr p3.1 (fun r4p => some (AEnd.pan r4p, p3.2)) fun r4 =>
  (bin .neq r4 (.int .i64 0)).bind fun v5 =>
  some (AEnd.ret (AV.copy v5), p3.2) := (hJ _ _ _ (by kernel_rfl)).trans (by kernel_rfl)
noncomputable def cur_Pen_put.A : FAnn := { nv := 4, mv := [(1, 1), (1, 5)], ld := [(1, 4)], lst := [], obj := [], q := [], raw := [] }
noncomputable def cur_Pen_put.an : Ann := .nil
noncomputable abbrev cur_Pen_put.c : Code := Tryz.f104.body.getD .skip
noncomputable def cur_Pen_put.J (call : Cl) (n : Nat) : Jn (AEnd × H) := realJ Tryz.prog cur_Pen_put.A call Tryz.f104 cur_Pen_put.an cur_Pen_put.c n
abbrev cur_Pen_put.F (call : Cl) (n : Nat) (J : Jn (AEnd × H)) : Prop := JFix Tryz.prog cur_Pen_put.A call Tryz.f104 cur_Pen_put.an cur_Pen_put.c n J
def cur_Pen_put.f (J : Jn (AEnd × H)) (x0 x1 : AV) (h : H) : Option (AEnd × H) := J [] [] ⟨[(0, x0), (1, x1)], [], [], h⟩
theorem cur_Pen_put.f_eq {call : Cl} {n : Nat} {J : Jn (AEnd × H)} (hJ : cur_Pen_put.F call n J) (x0 x1 : AV) (h : H) : cur_Pen_put.f J x0 x1 h =
  (eqv true (aeq Tryz.prog 20 84 x0 .nilPtr)).bind fun v1 =>
  condV v1 (
    (nilOk x0).bind fun v2 =>
    (fAddr 0 v2).bind fun v3 =>
    (ldTake h v3).bind fun p4 =>
    (apSlice 1 1 true true p4.2 p4.1 x1).bind fun v5 =>
    (nilOk x0).bind fun v6 =>
    (fAddr 0 v6).bind fun v7 =>
    (stN 1 p4.2 v7 v5).bind fun p8 =>
    some (AEnd.ret (.tuple []), p8.2)) (
    some (AEnd.ret (.tuple []), h)) := (hJ _ _ _ (by kernel_rfl)).trans (by kernel_rfl)
noncomputable def crc_More.A : FAnn := { nv := 8, mv := [(1, 0), (2, 0), (5, 0), (5, 1), (7, 0)], ld := [], lst := [], obj := [], q := [], raw := [] }
noncomputable def crc_More.an : Ann := .mk none .nil (.mk none .nil (.mk none (.mk none .nil (.mk none (.mk none (.mk (some [(5, 0), (10, 0), (11, 0), (12, 0)]) .nil .nil) .nil) .nil)) .nil))
noncomputable abbrev crc_More.c : Code := Tryz.f105.body.getD .skip
noncomputable def crc_More.J (call : Cl) (n : Nat) : Jn (AEnd × H) := realJ Tryz.prog crc_More.A call Tryz.f105 crc_More.an crc_More.c n
abbrev crc_More.F (call : Cl) (n : Nat) (J : Jn (AEnd × H)) : Prop := JFix Tryz.prog crc_More.A call Tryz.f105 crc_More.an crc_More.c n J
def crc_More.f (J : Jn (AEnd × H)) (x0 x1 : AV) (h : H) : Option (AEnd × H) := J [] [] ⟨[(0, x0), (1, x1)], [], [], h⟩
def crc_More.l0 (J : Jn (AEnd × H)) (m0 : Nat) (x5 x10 x11 x12 : AV) (h : H) : Option (AEnd × H) := J [1, 1, 0, 1, 0] [m0] ⟨[(5, x5), (10, x10), (11, x11), (12, x12)], [(5, 0), (10, 0), (11, 0), (12, 0)], [], h⟩
theorem crc_More.f_eq {call : Cl} {n : Nat} {J : Jn (AEnd × H)} (hJ : crc_More.F call n J) (x0 x1 : AV) (h : H) : crc_More.f J x0 x1 h =
  (unOp .xor x0).bind fun v1 =>
  (lnSl x1).bind fun v2 =>
  crc_More.l0 J n v1 x1 v2 (.int .i64 0) h := (hJ _ _ _ (by kernel_rfl)).trans (by kernel_rfl)
theorem crc_More.l0_eq {call : Cl} {n : Nat} {J : Jn (AEnd × H)} (hJ : crc_More.F call n J) (m0 : Nat) (x5 x10 x11 x12 : AV) (h : H) : crc_More.l0 J (m0 + 1) x5 x10 x11 x12 h =
  (bin .lss x12 x11).bind fun v3 =>
  condV v3 (
    (ixSlice 1 x10 x12).bind fun v4 =>
    (ldCell h v4).bind fun v5 =>
    (cvInt .u32 v5).bind fun v6 =>
    (bin .xor x5 v6).bind fun v7 =>
    (call n_crc_bits [AV.canon v7, AV.canon (.int .i64 8)] h).bind fun p8 => retOr p8.1 (fun r9p => some (AEnd.pan r9p, p8.2)) fun r9 =>
    (bin .add x12 (.int .i64 1)).bind fun v10 =>
    crc_More.l0 J m0 r9 x10 x11 v10 p8.2) (
    (unOp .xor x5).bind fun v11 =>
    some (AEnd.ret (AV.copy v11), h)) := (hJ _ _ _ (by kernel_rfl)).trans (by kernel_rfl)
noncomputable def slices_Clone_byte_byte.A : FAnn := { nv := 2, mv := [(3, 1)], ld := [], lst := [], obj := [], q := [], raw := [] }
noncomputable def slices_Clone_byte_byte.an : Ann := .nil
noncomputable abbrev slices_Clone_byte_byte.c : Code := Tryz.f106.body.getD .skip
noncomputable def slices_Clone_byte_byte.J (call : Cl) (n : Nat) : Jn (AEnd × H) := realJ Tryz.prog slices_Clone_byte_byte.A call Tryz.f106 slices_Clone_byte_byte.an slices_Clone_byte_byte.c n
abbrev slices_Clone_byte_byte.F (call : Cl) (n : Nat) (J : Jn (AEnd × H)) : Prop := JFix Tryz.prog slices_Clone_byte_byte.A call Tryz.f106 slices_Clone_byte_byte.an slices_Clone_byte_byte.c n J
def slices_Clone_byte_byte.f (J : Jn (AEnd × H)) (x0 : AV) (h : H) : Option (AEnd × H) := J [] [] ⟨[(0, x0)], [], [], h⟩
theorem slices_Clone_byte_byte.f_eq {call : Cl} {n : Nat} {J : Jn (AEnd × H)} (hJ : slices_Clone_byte_byte.F call n J) (x0 : AV) (h : H) : slices_Clone_byte_byte.f J x0 h =
  (slNil false x0).bind fun v1 =>
  condV v1 (
    some (AEnd.ret (.list [] .cap), h)) (
    (mkRows 1 [.int .u8 0] 0 []).bind fun v2 =>
    (apSlice 1 1 true false h v2 x0).bind fun v3 =>
    some (AEnd.ret v3, h)) := (hJ _ _ _ (by kernel_rfl)).trans (by kernel_rfl)
noncomputable def cur_ask_string.A : FAnn := { nv := 6, mv := [(5, 0)], ld := [], lst := [], obj := [], q := [], raw := [], df := [(145, { nv := 6, mv := [(1, 0), (3, 2)], ld := [], raw := [] })] }
noncomputable def cur_ask_string.an : Ann := .mk none .nil (.mk none (.mk none .nil (.mk (some [(1, 0), (2, 0), (4, 0), (14, 0)]) .nil .nil)) (.mk (some [(1, 0), (2, 0), (4, 0)]) .nil .nil))
noncomputable abbrev cur_ask_string.c : Code := Tryz.f107.body.getD .skip
noncomputable abbrev cur_ask_string.dc (call : Cl) (n : Nat) := dcall Tryz.prog cur_ask_string.A call n
theorem cur_ask_string.d145_eq {call : Cl} {n : Nat} (x0 x1 x2 : AV) (h : H) (v : AV) : cur_ask_string.dc call n n_cur_ask_string__c1 [x0, x1, x2] h v =
  (taTo (.agg [.int .i64 0]) t_cur_broken true v).bind fun v1 =>
  (exTuple 0 v1).bind fun v2 =>
  (exTuple 1 v1).bind fun v3 =>
  let h4 : H := h ++ [.arr [.int .i64 0] false]
  (stN 1 h4 (.ptr h.length 0) (AV.copy v2)).bind fun p5 =>
  condV v3 (
    (ldCell p5.2 x2).bind fun v6 =>
    (ldCell p5.2 x2).bind fun v7 =>
    (ldCell p5.2 x0).bind fun v8 =>
    (fAddr 0 (.ptr h.length 0)).bind fun v9 =>
    (ldCell p5.2 v9).bind fun v10 =>
    (stN 1 p5.2 x1 (.str [])).bind fun p11 =>
    whenB (eqO (ldCell p11.2 v9) v10) (
      (nilOk v6).bind fun v12 =>
      (fAddr 1 v12).bind fun v13 =>
      (stN 1 p11.2 v13 (AV.copy v8)).bind fun p14 =>
      whenB (eqO (ldCell p14.2 v9) v10) (
        (nilOk v7).bind fun v15 =>
        (fAddr 2 v15).bind fun v16 =>
        (stN 1 p14.2 v16 (AV.copy v10)).bind fun p17 =>
        some p17.2))) (
    some p5.2) := (dcall_eq (P := Tryz.prog) (A := cur_ask_string.A) (f := 145) (d := { nv := 6, mv := [(1, 0), (3, 2)], ld := [], raw := [] }) (c := Tryz.f145.body.getD .skip) (args := [x0, x1, x2]) (by kernel_rfl) Tryz.func145 (by kernel_rfl) (by kernel_rfl)).trans (by kernel_rfl)
noncomputable def cur_ask_string.J (call : Cl) (n : Nat) : Jn (AEnd × H) := realJ Tryz.prog cur_ask_string.A call Tryz.f107 cur_ask_string.an cur_ask_string.c n
abbrev cur_ask_string.F (call : Cl) (n : Nat) (J : Jn (AEnd × H)) : Prop := JFix Tryz.prog cur_ask_string.A call Tryz.f107 cur_ask_string.an cur_ask_string.c n J
def cur_ask_string.f (J : Jn (AEnd × H)) (x0 x1 : AV) (h : H) : Option (AEnd × H) := J [] [] ⟨[(0, x0), (1, x1)], [], [], h⟩
def cur_ask_string.j1 (J : Jn (AEnd × H)) (x1 x2 x4 x14 : AV) (h : H) : Option (AEnd × H) := J [1, 0, 1] [] ⟨[(1, x1), (2, x2), (4, x4), (14, x14)], [(1, 0), (2, 0), (4, 0), (14, 0)], [], h⟩
def cur_ask_string.j0 (J : Jn (AEnd × H)) (x1 x2 x4 : AV) (h : H) : Option (AEnd × H) := J [1, 1] [] ⟨[(1, x1), (2, x2), (4, x4)], [(1, 0), (2, 0), (4, 0)], [], h⟩
theorem cur_ask_string.f_eq {call : Cl} {n : Nat} {J : Jn (AEnd × H)} (hJ : cur_ask_string.F call n J) (x0 x1 : AV) (h : H) : cur_ask_string.f J x0 x1 h =
  (bx h (AV.copy x0)).bind fun p1 =>
  let h2 : H := p1.2 ++ [.arr [.str []] false]
  (ldCell h2 p1.1).bind fun v3 =>
  (eqv false (aeq Tryz.prog 20 90 v3 .nilPtr)).bind fun v4 =>
  condV v4 (
    cur_ask_string.j1 J  x1 p1.1 (.ptr p1.2.length 0) (.bool true) h2) (
    (ldCell h2 p1.1).bind fun v5 =>
    (nilOk v5).bind fun v6 =>
    (fAddr 2 v6).bind fun v7 =>
    (ldCell h2 v7).bind fun v8 =>
    (bin .neq v8 (.int .i64 0)).bind fun v9 =>
    cur_ask_string.j1 J  x1 p1.1 (.ptr p1.2.length 0) v9 h2) := (hJ _ _ _ (by kernel_rfl)).trans (by kernel_rfl)
theorem cur_ask_string.j1_eq {call : Cl} {n : Nat} {J : Jn (AEnd × H)} (hJ : cur_ask_string.F call n J) (x1 x2 x4 x14 : AV) (h : H) : cur_ask_string.j1 J  x1 x2 x4 x14 h =
  condV x14 (
    (ldCell h x4).bind fun v10 =>
    (stN 1 h x4 (AV.copy v10)).bind fun p11 =>
    (resN [(ldCell p11.2 x4).map AV.copy]).map fun v => (AEnd.ret v, p11.2)) (
    cur_ask_string.j0 J  x1 x2 x4 h) := (hJ _ _ _ (by kernel_rfl)).trans (by kernel_rfl)
theorem cur_ask_string.j0_eq {call : Cl} {n : Nat} {J : Jn (AEnd × H)} (hJ : cur_ask_string.F call n J) (x1 x2 x4 : AV) (h : H) : cur_ask_string.j0 J  x1 x2 x4 h =
  (ldCell h x2).bind fun v12 =>
  (nilOk v12).bind fun v13 =>
  (fAddr 1 v13).bind fun v14 =>
  (ldCell h v14).bind fun v15 =>
  let h16 : H := h ++ [.arr [.int .i64 0] false]
  (stN 1 h16 (.ptr h.length 0) (AV.copy v15)).bind fun p17 =>
  (ldCell p17.2 x2).bind fun v18 =>
  (callVal call p17.2 x1 [AV.canon v18]).bind fun p19 => retOr p19.1 (fun r20p => (cur_ask_string.dc call n n_cur_ask_string__c1 [AV.copy (.ptr h.length 0), AV.copy x4, AV.copy x2] p19.2 r20p).bind fun h23 =>
  (resN [(ldCell h23 x4).map AV.copy]).map fun v => (AEnd.ret v, h23)) fun r20 =>
  (stN 1 p19.2 x4 r20).bind fun p21 =>
  (cur_ask_string.dc call n n_cur_ask_string__c1 [AV.copy (.ptr h.length 0), AV.copy x4, AV.copy x2] p21.2 .nilIface).bind fun h22 =>
  (resN [(ldCell h22 x4).map AV.copy]).map fun v => (AEnd.ret v, h22) := (hJ _ _ _ (by kernel_rfl)).trans (by kernel_rfl)
noncomputable def cur_Reader_Text_c1.A : FAnn := { nv := 3, mv := [(1, 1)], ld := [], lst := [], obj := [], q := [], raw := [] }
noncomputable def cur_Reader_Text_c1.an : Ann := .nil
noncomputable abbrev cur_Reader_Text_c1.c : Code := Tryz.f108.body.getD .skip
noncomputable def cur_Reader_Text_c1.J (call : Cl) (n : Nat) : Jn (AEnd × H) := realJ Tryz.prog cur_Reader_Text_c1.A call Tryz.f108 cur_Reader_Text_c1.an cur_Reader_Text_c1.c n
abbrev cur_Reader_Text_c1.F (call : Cl) (n : Nat) (J : Jn (AEnd × H)) : Prop := JFix Tryz.prog cur_Reader_Text_c1.A call Tryz.f108 cur_Reader_Text_c1.an cur_Reader_Text_c1.c n J
def cur_Reader_Text_c1.f (J : Jn (AEnd × H)) (x0 x1 : AV) (h : H) : Option (AEnd × H) := J [] [] ⟨[(0, x0), (1, x1)], [], [], h⟩
theorem cur_Reader_Text_c1.f_eq {call : Cl} {n : Nat} {J : Jn (AEnd × H)} (hJ : cur_Reader_Text_c1.F call n J) (x0 x1 : AV) (h : H) : cur_Reader_Text_c1.f J x0 x1 h =
  (ldCell h x1).bind fun v1 =>
  (call n_cur_Reader_upto [AV.canon x0, AV.canon v1] h).bind fun p2 => retOr p2.1 (fun r3p => some (AEnd.pan r3p, p2.2)) fun r3 =>
  (call n_cur_Reader_take [AV.canon x0, AV.canon r3] p2.2).bind fun p4 => retOr p4.1 (fun r5p => some (AEnd.pan r5p, p4.2)) fun r5 =>
  (bytesStr p4.2 r5).bind fun v6 =>
  some (AEnd.ret v6, p4.2) := (hJ _ _ _ (by kernel_rfl)).trans (by kernel_rfl)
noncomputable def cur_Reader_take.A : FAnn := { nv := 4, mv := [(4, 8), (4, 10)], ld := [], lst := [], obj := [], q := [], raw := [] }
noncomputable def cur_Reader_take.an : Ann := .mk none .nil (.mk none .nil (.mk (some [(0, 0), (1, 0)]) .nil .nil))
noncomputable abbrev cur_Reader_take.c : Code := Tryz.f109.body.getD .skip
noncomputable def cur_Reader_take.J (call : Cl) (n : Nat) : Jn (AEnd × H) := realJ Tryz.prog cur_Reader_take.A call Tryz.f109 cur_Reader_take.an cur_Reader_take.c n
abbrev cur_Reader_take.F (call : Cl) (n : Nat) (J : Jn (AEnd × H)) : Prop := JFix Tryz.prog cur_Reader_take.A call Tryz.f109 cur_Reader_take.an cur_Reader_take.c n J
def cur_Reader_take.f (J : Jn (AEnd × H)) (x0 x1 : AV) (h : H) : Option (AEnd × H) := J [] [] ⟨[(0, x0), (1, x1)], [], [], h⟩
def cur_Reader_take.j0 (J : Jn (AEnd × H)) (x0 x1 : AV) (h : H) : Option (AEnd × H) := J [1, 1] [] ⟨[(0, x0), (1, x1)], [(0, 0), (1, 0)], [], h⟩
theorem cur_Reader_take.f_eq {call : Cl} {n : Nat} {J : Jn (AEnd × H)} (hJ : cur_Reader_take.F call n J) (x0 x1 : AV) (h : H) : cur_Reader_take.f J x0 x1 h =
  (nilOk x0).bind fun v1 =>
  (fAddr 0 v1).bind fun v2 =>
  (ldCell h v2).bind fun v3 =>
  (lnSl v3).bind fun v4 =>
  (nilOk x0).bind fun v5 =>
  (fAddr 1 v5).bind fun v6 =>
  (ldCell h v6).bind fun v7 =>
  (bin .sub v4 v7).bind fun v8 =>
  (bin .gtr x1 v8).bind fun v9 =>
  condV v9 (
    (mkAgg [.int .i64 0] [(0, 1, AV.copy (.int .i64 10))]).bind fun v10 =>
    panOr (.iface t_cur_broken (AV.copy v10)) fun w => some (AEnd.pan w, h)) (
    cur_Reader_take.j0 J  x0 x1 h) := (hJ _ _ _ (by kernel_rfl)).trans (by kernel_rfl)
theorem cur_Reader_take.j0_eq {call : Cl} {n : Nat} {J : Jn (AEnd × H)} (hJ : cur_Reader_take.F call n J) (x0 x1 : AV) (h : H) : cur_Reader_take.j0 J  x0 x1 h =
  (nilOk x0).bind fun v11 =>
  (fAddr 1 v11).bind fun v12 =>
  (ldCell h v12).bind fun v13 =>
  (bin .add v13 x1).bind fun v14 =>
  (nilOk x0).bind fun v15 =>
  (fAddr 1 v15).bind fun v16 =>
  (stN 1 h v16 (AV.copy v14)).bind fun p17 =>
  (nilOk x0).bind fun v18 =>
  (fAddr 0 v18).bind fun v19 =>
  (ldCell p17.2 v19).bind fun v20 =>
  (nilOk x0).bind fun v21 =>
  (fAddr 1 v21).bind fun v22 =>
  (ldCell p17.2 v22).bind fun v23 =>
  (bin .sub v23 x1).bind fun v24 =>
  (nilOk x0).bind fun v25 =>
  (fAddr 1 v25).bind fun v26 =>
  (ldCell p17.2 v26).bind fun v27 =>
  (slSlice 1 v20 (some v24) (some v27) none).bind fun v28 =>
  some (AEnd.ret (AV.copy v28), p17.2) := (hJ _ _ _ (by kernel_rfl)).trans (by kernel_rfl)
noncomputable def cur_Reader_upto.A : FAnn := { nv := 6, mv := [(1, 0), (2, 4), (4, 0)], ld := [], lst := [], obj := [], q := [], raw := [] }
noncomputable def cur_Reader_upto.an : Ann := .mk none .nil (.mk none .nil (.mk none (.mk none .nil (.mk (some [(5, 255), (15, 0)]) .nil .nil)) .nil))
noncomputable abbrev cur_Reader_upto.c : Code := Tryz.f110.body.getD .skip
noncomputable def cur_Reader_upto.J (call : Cl) (n : Nat) : Jn (AEnd × H) := realJ Tryz.prog cur_Reader_upto.A call Tryz.f110 cur_Reader_upto.an cur_Reader_upto.c n
abbrev cur_Reader_upto.F (call : Cl) (n : Nat) (J : Jn (AEnd × H)) : Prop := JFix Tryz.prog cur_Reader_upto.A call Tryz.f110 cur_Reader_upto.an cur_Reader_upto.c n J
def cur_Reader_upto.f (J : Jn (AEnd × H)) (x0 x1 : AV) (h : H) : Option (AEnd × H) := J [] [] ⟨[(0, x0), (1, x1)], [], [], h⟩
def cur_Reader_upto.j0 (J : Jn (AEnd × H)) (x5 x15 : AV) (h : H) : Option (AEnd × H) := J [1, 1, 0, 1] [] ⟨[(5, x5), (15, x15)], [(5, 255), (15, 0)], [], h⟩
theorem cur_Reader_upto.f_eq {call : Cl} {n : Nat} {J : Jn (AEnd × H)} (hJ : cur_Reader_upto.F call n J) (x0 x1 : AV) (h : H) : cur_Reader_upto.f J x0 x1 h =
  (call n_cur_Reader_number [AV.canon x0] h).bind fun p1 => retOr p1.1 (fun r2p => some (AEnd.pan r2p, p1.2)) fun r2 =>
  (bin .lss x1 (.int .i64 0)).bind fun v3 =>
  condV v3 (
    cur_Reader_upto.j0 J  r2 (.bool true) p1.2) (
    (cvInt .u64 x1).bind fun v4 =>
    (bin .gtr r2 v4).bind fun v5 =>
    cur_Reader_upto.j0 J  r2 v5 p1.2) := (hJ _ _ _ (by kernel_rfl)).trans (by kernel_rfl)
theorem cur_Reader_upto.j0_eq {call : Cl} {n : Nat} {J : Jn (AEnd × H)} (hJ : cur_Reader_upto.F call n J) (x5 x15 : AV) (h : H) : cur_Reader_upto.j0 J  x5 x15 h =
  condV x15 (
    (mkAgg [.int .i64 0] [(0, 1, AV.copy (.int .i64 3))]).bind fun v6 =>
    panOr (.iface t_cur_broken (AV.copy v6)) fun w => some (AEnd.pan w, h)) (
    (cvInt .i64 x5).bind fun v7 =>
    some (AEnd.ret v7, h)) := (hJ _ _ _ (by kernel_rfl)).trans (by kernel_rfl)
noncomputable def cur_ask_uint32.A : FAnn := { nv := 6, mv := [(5, 0)], ld := [], lst := [], obj := [], q := [], raw := [], df := [(147, { nv := 6, mv := [(1, 0), (3, 2)], ld := [], raw := [] })] }
noncomputable def cur_ask_uint32.an : Ann := .mk none .nil (.mk none (.mk none .nil (.mk (some [(1, 0), (2, 0), (4, 0), (14, 0)]) .nil .nil)) (.mk (some [(1, 0), (2, 0), (4, 0)]) .nil .nil))
noncomputable abbrev cur_ask_uint32.c : Code := Tryz.f111.body.getD .skip
noncomputable abbrev cur_ask_uint32.dc (call : Cl) (n : Nat) := dcall Tryz.prog cur_ask_uint32.A call n
theorem cur_ask_uint32.d147_eq {call : Cl} {n : Nat} (x0 x1 x2 : AV) (h : H) (v : AV) : cur_ask_uint32.dc call n n_cur_ask_uint32__c1 [x0, x1, x2] h v =
  (taTo (.agg [.int .i64 0]) t_cur_broken true v).bind fun v1 =>
  (exTuple 0 v1).bind fun v2 =>
  (exTuple 1 v1).bind fun v3 =>
  let h4 : H := h ++ [.arr [.int .i64 0] false]
  (stN 1 h4 (.ptr h.length 0) (AV.copy v2)).bind fun p5 =>
  condV v3 (
    (ldCell p5.2 x2).bind fun v6 =>
    (ldCell p5.2 x2).bind fun v7 =>
    (ldCell p5.2 x0).bind fun v8 =>
    (fAddr 0 (.ptr h.length 0)).bind fun v9 =>
    (ldCell p5.2 v9).bind fun v10 =>
    (stN 1 p5.2 x1 (.int .u32 0)).bind fun p11 =>
    whenB (eqO (ldCell p11.2 v9) v10) (
      (nilOk v6).bind fun v12 =>
      (fAddr 1 v12).bind fun v13 =>
      (stN 1 p11.2 v13 (AV.copy v8)).bind fun p14 =>
      whenB (eqO (ldCell p14.2 v9) v10) (
        (nilOk v7).bind fun v15 =>
        (fAddr 2 v15).bind fun v16 =>
        (stN 1 p14.2 v16 (AV.copy v10)).bind fun p17 =>
        some p17.2))) (
    some p5.2) := (dcall_eq (P := Tryz.prog) (A := cur_ask_uint32.A) (f := 147) (d := { nv := 6, mv := [(1, 0), (3, 2)], ld := [], raw := [] }) (c := Tryz.f147.body.getD .skip) (args := [x0, x1, x2]) (by kernel_rfl) Tryz.func147 (by kernel_rfl) (by kernel_rfl)).trans (by kernel_rfl)
noncomputable def cur_ask_uint32.J (call : Cl) (n : Nat) : Jn (AEnd × H) := realJ Tryz.prog cur_ask_uint32.A call Tryz.f111 cur_ask_uint32.an cur_ask_uint32.c n
abbrev cur_ask_uint32.F (call : Cl) (n : Nat) (J : Jn (AEnd × H)) : Prop := JFix Tryz.prog cur_ask_uint32.A call Tryz.f111 cur_ask_uint32.an cur_ask_uint32.c n J
def cur_ask_uint32.f (J : Jn (AEnd × H)) (x0 x1 : AV) (h : H) : Option (AEnd × H) := J [] [] ⟨[(0, x0), (1, x1)], [], [], h⟩
def cur_ask_uint32.j1 (J : Jn (AEnd × H)) (x1 x2 x4 x14 : AV) (h : H) : Option (AEnd × H) := J [1, 0, 1] [] ⟨[(1, x1), (2, x2), (4, x4), (14, x14)], [(1, 0), (2, 0), (4, 0), (14, 0)], [], h⟩
def cur_ask_uint32.j0 (J : Jn (AEnd × H)) (x1 x2 x4 : AV) (h : H) : Option (AEnd × H) := J [1, 1] [] ⟨[(1, x1), (2, x2), (4, x4)], [(1, 0), (2, 0), (4, 0)], [], h⟩
theorem cur_ask_uint32.f_eq {call : Cl} {n : Nat} {J : Jn (AEnd × H)} (hJ : cur_ask_uint32.F call n J) (x0 x1 : AV) (h : H) : cur_ask_uint32.f J x0 x1 h =
  (bx h (AV.copy x0)).bind fun p1 =>
  let h2 : H := p1.2 ++ [.arr [.int .u32 0] false]
  (ldCell h2 p1.1).bind fun v3 =>
  (eqv false (aeq Tryz.prog 20 90 v3 .nilPtr)).bind fun v4 =>
  condV v4 (
    cur_ask_uint32.j1 J  x1 p1.1 (.ptr p1.2.length 0) (.bool true) h2) (
    (ldCell h2 p1.1).bind fun v5 =>
    (nilOk v5).bind fun v6 =>
    (fAddr 2 v6).bind fun v7 =>
    (ldCell h2 v7).bind fun v8 =>
    (bin .neq v8 (.int .i64 0)).bind fun v9 =>
    cur_ask_uint32.j1 J  x1 p1.1 (.ptr p1.2.length 0) v9 h2) := (hJ _ _ _ (by kernel_rfl)).trans (by kernel_rfl)
theorem cur_ask_uint32.j1_eq {call : Cl} {n : Nat} {J : Jn (AEnd × H)} (hJ : cur_ask_uint32.F call n J) (x1 x2 x4 x14 : AV) (h : H) : cur_ask_uint32.j1 J  x1 x2 x4 x14 h =
  condV x14 (
    (ldCell h x4).bind fun v10 =>
    (stN 1 h x4 (AV.copy v10)).bind fun p11 =>
    (resN [(ldCell p11.2 x4).map AV.copy]).map fun v => (AEnd.ret v, p11.2)) (
    cur_ask_uint32.j0 J  x1 x2 x4 h) := (hJ _ _ _ (by kernel_rfl)).trans (by kernel_rfl)
theorem cur_ask_uint32.j0_eq {call : Cl} {n : Nat} {J : Jn (AEnd × H)} (hJ : cur_ask_uint32.F call n J) (x1 x2 x4 : AV) (h : H) : cur_ask_uint32.j0 J  x1 x2 x4 h =
  (ldCell h x2).bind fun v12 =>
  (nilOk v12).bind fun v13 =>
  (fAddr 1 v13).bind fun v14 =>
  (ldCell h v14).bind fun v15 =>
  let h16 : H := h ++ [.arr [.int .i64 0] false]
  (stN 1 h16 (.ptr h.length 0) (AV.copy v15)).bind fun p17 =>
  (ldCell p17.2 x2).bind fun v18 =>
  (callVal call p17.2 x1 [AV.canon v18]).bind fun p19 => retOr p19.1 (fun r20p => (cur_ask_uint32.dc call n n_cur_ask_uint32__c1 [AV.copy (.ptr h.length 0), AV.copy x4, AV.copy x2] p19.2 r20p).bind fun h23 =>
  (resN [(ldCell h23 x4).map AV.copy]).map fun v => (AEnd.ret v, h23)) fun r20 =>
  (stN 1 p19.2 x4 r20).bind fun p21 =>
  (cur_ask_uint32.dc call n n_cur_ask_uint32__c1 [AV.copy (.ptr h.length 0), AV.copy x4, AV.copy x2] p21.2 .nilIface).bind fun h22 =>
  (resN [(ldCell h22 x4).map AV.copy]).map fun v => (AEnd.ret v, h22) := (hJ _ _ _ (by kernel_rfl)).trans (by kernel_rfl)
noncomputable def cur_Reader_word.A : FAnn := { nv := 6, mv := [(2, 0), (5, 0), (5, 1), (5, 3), (7, 0)], ld := [], lst := [], obj := [], q := [], raw := [] }
noncomputable def cur_Reader_word.an : Ann := .mk none .nil (.mk none .nil (.mk none (.mk none .nil (.mk none (.mk none (.mk (some [(3, 0), (7, 255), (8, 0), (9, 0)]) .nil .nil) .nil) .nil)) .nil))
noncomputable abbrev cur_Reader_word.c : Code := Tryz.f112.body.getD .skip
noncomputable def cur_Reader_word.J (call : Cl) (n : Nat) : Jn (AEnd × H) := realJ Tryz.prog cur_Reader_word.A call Tryz.f112 cur_Reader_word.an cur_Reader_word.c n
abbrev cur_Reader_word.F (call : Cl) (n : Nat) (J : Jn (AEnd × H)) : Prop := JFix Tryz.prog cur_Reader_word.A call Tryz.f112 cur_Reader_word.an cur_Reader_word.c n J
def cur_Reader_word.f (J : Jn (AEnd × H)) (x0 : AV) (h : H) : Option (AEnd × H) := J [] [] ⟨[(0, x0)], [], [], h⟩
def cur_Reader_word.l0 (J : Jn (AEnd × H)) (m0 : Nat) (x3 x7 x8 x9 : AV) (h : H) : Option (AEnd × H) := J [1, 1, 0, 1, 0] [m0] ⟨[(3, x3), (7, x7), (8, x8), (9, x9)], [(3, 0), (7, 255), (8, 0), (9, 0)], [], h⟩
theorem cur_Reader_word.f_eq {call : Cl} {n : Nat} {J : Jn (AEnd × H)} (hJ : cur_Reader_word.F call n J) (x0 : AV) (h : H) : cur_Reader_word.f J x0 h =
  (call n_cur_Reader_take [AV.canon x0, AV.canon (.int .i64 4)] h).bind fun p1 => retOr p1.1 (fun r2p => some (AEnd.pan r2p, p1.2)) fun r2 =>
  (lnSl r2).bind fun v3 =>
  cur_Reader_word.l0 J n (.int .u32 0) r2 v3 (.int .i64 0) p1.2 := (hJ _ _ _ (by kernel_rfl)).trans (by kernel_rfl)
theorem cur_Reader_word.l0_eq {call : Cl} {n : Nat} {J : Jn (AEnd × H)} (hJ : cur_Reader_word.F call n J) (m0 : Nat) (x3 x7 x8 x9 : AV) (h : H) : cur_Reader_word.l0 J (m0 + 1) x3 x7 x8 x9 h =
  (bin .lss x9 x8).bind fun v4 =>
  condV v4 (
    (ixSlice 1 x7 x9).bind fun v5 =>
    (ldCell h v5).bind fun v6 =>
    (cvInt .u32 v6).bind fun v7 =>
    (bin .mul (.int .i64 8) x9).bind fun v8 =>
    (bin .shl v7 v8).bind fun v9 =>
    (bin .or x3 v9).bind fun v10 =>
    (bin .add x9 (.int .i64 1)).bind fun v11 =>
    cur_Reader_word.l0 J m0 v10 x7 x8 v11 h) (
    some (AEnd.ret (AV.copy x3), h)) := (hJ _ _ _ (by kernel_rfl)).trans (by kernel_rfl)
noncomputable def rec_changes.A : FAnn := { nv := 8, mv := [(11, 0), (14, 0), (17, 11), (18, 0)], ld := [], lst := [], obj := [], q := [], raw := [] }
noncomputable def rec_changes.an : Ann := .mk none .nil (.mk none .nil (.mk none .nil (.mk none (.mk none .nil (.mk none (.mk none (.mk (some [(0, 0), (3, 0), (4, 255), (13, 255), (14, 0)]) .nil (.mk none .nil (.mk none (.mk none (.mk none .nil (.mk none .nil (.mk none .nil (.mk none (.mk none .nil (.mk none (.mk none (.mk (some [(0, 0), (3, 0), (4, 255), (5, 0), (13, 255), (14, 0), (40, 0), (41, 0), (42, 0)]) .nil .nil) .nil) .nil)) .nil)))) .nil) .nil))) .nil) .nil)) .nil)))
noncomputable abbrev rec_changes.c : Code := Tryz.f114.body.getD .skip
noncomputable def rec_changes.J (call : Cl) (n : Nat) : Jn (AEnd × H) := realJ Tryz.prog rec_changes.A call Tryz.f114 rec_changes.an rec_changes.c n
abbrev rec_changes.F (call : Cl) (n : Nat) (J : Jn (AEnd × H)) : Prop := JFix Tryz.prog rec_changes.A call Tryz.f114 rec_changes.an rec_changes.c n J
def rec_changes.f (J : Jn (AEnd × H)) (x0 : AV) (h : H) : Option (AEnd × H) := J [] [] ⟨[(0, x0)], [], [], h⟩
def rec_changes.l0 (J : Jn (AEnd × H)) (m0 : Nat) (x0 x3 x4 x13 x14 : AV) (h : H) : Option (AEnd × H) := J [1, 1, 1, 0, 1, 0] [m0] ⟨[(0, x0), (3, x3), (4, x4), (13, x13), (14, x14)], [(0, 0), (3, 0), (4, 255), (13, 255), (14, 0)], [], h⟩
def rec_changes.l1 (J : Jn (AEnd × H)) (m0 m1 : Nat) (x0 x3 x4 x5 x13 x14 x40 x41 x42 : AV) (h : H) : Option (AEnd × H) := J [1, 1, 1, 0, 1, 0, 0, 1, 1, 0, 0, 1, 1, 1, 0, 1, 0] [m0, m1] ⟨[(0, x0), (3, x3), (4, x4), (5, x5), (13, x13), (14, x14), (40, x40), (41, x41), (42, x42)], [(0, 0), (3, 0), (4, 255), (5, 0), (13, 255), (14, 0), (40, 0), (41, 0), (42, 0)], [], h⟩
theorem rec_changes.f_eq {call : Cl} {n : Nat} {J : Jn (AEnd × H)} (hJ : rec_changes.F call n J) (x0 : AV) (h : H) : rec_changes.f J x0 h =
  (call n_cur_From [AV.canon x0] h).bind fun p1 => retOr p1.1 (fun r2p => some (AEnd.pan r2p, p1.2)) fun r2 =>
  (mkAgg [.nilPtr] [(0, 1, AV.copy r2)]).bind fun v3 =>
  let h4 : H := p1.2 ++ [.arr [.nilPtr] false]
  (stN 1 h4 (.ptr p1.2.length 0) v3).bind fun p5 =>
  (fAddr 0 (.ptr p1.2.length 0)).bind fun v6 =>
  (ldCell p5.2 v6).bind fun v7 =>
  (call n_cur_Reader_Count [AV.canon v7, AV.canon (.int .i64 512)] p5.2).bind fun p8 => retOr p8.1 (fun r9p => some (AEnd.pan r9p, p8.2)) fun r9 =>
  rec_changes.l0 J n x0 (.ptr p1.2.length 0) (.list [] .cap) r9 (.int .i64 0) p8.2 := (hJ _ _ _ (by kernel_rfl)).trans (by kernel_rfl)
theorem rec_changes.l0_eq {call : Cl} {n : Nat} {J : Jn (AEnd × H)} (hJ : rec_changes.F call n J) (m0 : Nat) (x0 x3 x4 x13 x14 : AV) (h : H) : rec_changes.l0 J (m0 + 1) x0 x3 x4 x13 x14 h =
  (bin .lss x14 x13).bind fun v10 =>
  condV v10 (
    (ldAgg 1 h x3).bind fun v11 =>
    (call n_rec_taker_num [AV.canon v11] h).bind fun p12 => retOr p12.1 (fun r13p => some (AEnd.pan r13p, p12.2)) fun r13 =>
    (mkAgg [.int .i64 0, .int .u64 0, .int .i64 0, .int .i64 0, .str [], .str [], .int .i64 0, .str [], .int .i64 0, .int .i64 0, .str []] [(0, 1, AV.copy r13)]).bind fun v14 =>
    let h15 : H := p12.2 ++ [.arr [.int .i64 0, .int .u64 0, .int .i64 0, .int .i64 0, .str [], .str [], .int .i64 0, .str [], .int .i64 0, .int .i64 0, .str []] false]
    (stN 11 h15 (.ptr p12.2.length 0) v14).bind fun p16 =>
    (fAddr 0 x3).bind fun v17 =>
    (ldCell p16.2 v17).bind fun v18 =>
    (call n_cur_Reader_Word [AV.canon v18] p16.2).bind fun p19 => retOr p19.1 (fun r20p => some (AEnd.pan r20p, p19.2)) fun r20 =>
    (cvInt .u64 r20).bind fun v21 =>
    (fAddr 1 (.ptr p12.2.length 0)).bind fun v22 =>
    (fAddr 0 v22).bind fun v23 =>
    (stN 1 p19.2 v23 v21).bind fun p24 =>
    (fAddr 1 (.ptr p12.2.length 0)).bind fun v25 =>
    (fAddr 0 v25).bind fun v26 =>
    (ldCell p24.2 v26).bind fun v27 =>
    (fAddr 0 x3).bind fun v28 =>
    (ldCell p24.2 v28).bind fun v29 =>
    (call n_cur_Reader_Word [AV.canon v29] p24.2).bind fun p30 => retOr p30.1 (fun _ => none) fun r31 =>
    whenB (eqO (ldCell p30.2 v26) v27) (
      (cvInt .u64 r31).bind fun v32 =>
      (bin .shl v32 (.int .u64 32)).bind fun v33 =>
      (bin .or v27 v33).bind fun v34 =>
      (fAddr 1 (.ptr p12.2.length 0)).bind fun v35 =>
      (fAddr 0 v35).bind fun v36 =>
      (stN 1 p30.2 v36 (AV.copy v34)).bind fun p37 =>
      (call n_rec_kinds [] p37.2).bind fun p38 => retOr p38.1 (fun _ => none) fun r39 =>
      (fAddr 0 (.ptr p12.2.length 0)).bind fun v40 =>
      (ldCell p38.2 v40).bind fun v41 =>
      whenB (eqO (ldCell p37.2 v40) v41) (
        (lkMap .int (.agg [.list [] .cap, .list [] .cap, .nilFunc]) p38.2 r39 v41 false).bind fun v42 =>
        (fCell 1 v42).bind fun v43 =>
        (lnSl v43).bind fun v44 =>
        rec_changes.l1 J m0 n x0 x3 x4 (.ptr p12.2.length 0) x13 x14 v43 v44 (.int .i64 0) p38.2))) (
    (fAddr 0 x3).bind fun v45 =>
    (ldCell h v45).bind fun v46 =>
    (call n_cur_Reader_End [AV.canon v46] h).bind fun p47 => retOr p47.1 (fun r48p => some (AEnd.pan r48p, p47.2)) fun r48 =>
    (fAddr 0 x3).bind fun v49 =>
    (ldCell p47.2 v49).bind fun v50 =>
    (call n_cur_Reader_Err [AV.canon v50] p47.2).bind fun p51 => retOr p51.1 (fun r52p => some (AEnd.pan r52p, p51.2)) fun r52 =>
    (bin .eql r52 (.int .i64 0)).bind fun v53 =>
    condV v53 (
      (call n_rec_batch [AV.canon x4] p51.2).bind fun p54 => retOr p54.1 (fun r55p => some (AEnd.pan r55p, p54.2)) fun r55 =>
      condV r55 (
        (call n_rec_body [AV.canon x4] p54.2).bind fun p56 => retOr p56.1 (fun r57p => some (AEnd.pan r57p, p56.2)) fun r57 =>
        (call n_slices_Equal_byte_byte [AV.canon r57, AV.canon x0] p56.2).bind fun p58 => retOr p58.1 (fun r59p => some (AEnd.pan r59p, p58.2)) fun r59 =>
        (call n_rec_must [AV.canon r59] p58.2).bind fun p60 => retOr p60.1 (fun r61p => some (AEnd.pan r61p, p60.2)) fun r61 =>
        some (AEnd.ret x4, p60.2)) (
        (call n_rec_must [AV.canon (.bool false)] p54.2).bind fun p62 => retOr p62.1 (fun r63p => some (AEnd.pan r63p, p62.2)) fun r63 =>
        some (AEnd.ret x4, p62.2))) (
      (call n_rec_must [AV.canon (.bool false)] p51.2).bind fun p64 => retOr p64.1 (fun r65p => some (AEnd.pan r65p, p64.2)) fun r65 =>
      some (AEnd.ret x4, p64.2))) := (hJ _ _ _ (by kernel_rfl)).trans (by kernel_rfl)
theorem rec_changes.l1_eq {call : Cl} {n : Nat} {J : Jn (AEnd × H)} (hJ : rec_changes.F call n J) (m0 m1 : Nat) (x0 x3 x4 x5 x13 x14 x40 x41 x42 : AV) (h : H) : rec_changes.l1 J m0 (m1 + 1) x0 x3 x4 x5 x13 x14 x40 x41 x42 h =
  (bin .lss x42 x41).bind fun v66 =>
  condV v66 (
    (ixSlice 1 x40 x42).bind fun v67 =>
    (ldCell h v67).bind fun v68 =>
    (ldAgg 1 h x3).bind fun v69 =>
    (fAddr 1 x5).bind fun v70 =>
    (callVal call h v68 [AV.canon v69, AV.canon v70]).bind fun p71 => retOr p71.1 (fun r72p => some (AEnd.pan r72p, p71.2)) fun r72 =>
    (bin .add x42 (.int .i64 1)).bind fun v73 =>
    rec_changes.l1 J m0 m1 x0 x3 x4 x5 x13 x14 x40 x41 v73 p71.2) (
    (fAddr 0 x3).bind fun v74 =>
    (ldCell h v74).bind fun v75 =>
    (call n_cur_Reader_Err [AV.canon v75] h).bind fun p76 => retOr p76.1 (fun r77p => some (AEnd.pan r77p, p76.2)) fun r77 =>
    (bin .eql r77 (.int .i64 0)).bind fun v78 =>
    (call n_rec_must [AV.canon v78] p76.2).bind fun p79 => retOr p79.1 (fun r80p => some (AEnd.pan r80p, p79.2)) fun r80 =>
    (ldAgg 11 p79.2 x5).bind fun v81 =>
    (mkRows 11 [.int .i64 0, .int .u64 0, .int .i64 0, .int .i64 0, .str [], .str [], .int .i64 0, .str [], .int .i64 0, .int .i64 0, .str []] 1 [(0, v81)]).bind fun v82 =>
    (apSlice 11 120 false true p79.2 x4 v82).bind fun v83 =>
    (bin .add x14 (.int .i64 1)).bind fun v84 =>
    rec_changes.l0 J m0 x0 x3 v83 x13 v84 p79.2) := (hJ _ _ _ (by kernel_rfl)).trans (by kernel_rfl)
noncomputable def ref02_Reader_Text.A : FAnn := { nv := 7, mv := [(2, 1), (6, 1), (7, 0), (9, 0), (9, 1)], ld := [], lst := [], obj := [], q := [], raw := [] }
noncomputable def ref02_Reader_Text.an : Ann := .nil
noncomputable abbrev ref02_Reader_Text.c : Code := Tryz.f115.body.getD .skip
noncomputable def ref02_Reader_Text.J (call : Cl) (n : Nat) : Jn (AEnd × H) := realJ Tryz.prog ref02_Reader_Text.A call Tryz.f115 ref02_Reader_Text.an ref02_Reader_Text.c n
abbrev ref02_Reader_Text.F (call : Cl) (n : Nat) (J : Jn (AEnd × H)) : Prop := JFix Tryz.prog ref02_Reader_Text.A call Tryz.f115 ref02_Reader_Text.an ref02_Reader_Text.c n J
def ref02_Reader_Text.f (J : Jn (AEnd × H)) (x0 x1 : AV) (h : H) : Option (AEnd × H) := J [] [] ⟨[(0, x0), (1, x1)], [], [], h⟩
theorem ref02_Reader_Text.f_eq {call : Cl} {n : Nat} {J : Jn (AEnd × H)} (hJ : ref02_Reader_Text.F call n J) (x0 x1 : AV) (h : H) : ref02_Reader_Text.f J x0 x1 h =
  (nilOk x0).bind fun v1 =>
  (fAddr 1 v1).bind fun v2 =>
  (ldCell h v2).bind fun v3 =>
  (call n_warrantorref02_Reader_Count [AV.canon x0, AV.canon x1] h).bind fun p4 => retOr p4.1 (fun r5p => some (AEnd.pan r5p, p4.2)) fun r5 =>
  (nilOk x0).bind fun v6 =>
  (fAddr 2 v6).bind fun v7 =>
  (ldCell p4.2 v7).bind fun v8 =>
  (bin .neq v8 (.int .i64 0)).bind fun v9 =>
  condV v9 (
    some (AEnd.ret (.str []), p4.2)) (
    (nilOk x0).bind fun v10 =>
    (fAddr 0 v10).bind fun v11 =>
    (ldCell p4.2 v11).bind fun v12 =>
    (lnSl v12).bind fun v13 =>
    (nilOk x0).bind fun v14 =>
    (fAddr 1 v14).bind fun v15 =>
    (ldCell p4.2 v15).bind fun v16 =>
    (bin .sub v13 v16).bind fun v17 =>
    (bin .gtr r5 v17).bind fun v18 =>
    condV v18 (
      (nilOk x0).bind fun v19 =>
      (fAddr 1 v19).bind fun v20 =>
      (stN 1 p4.2 v20 (AV.copy v3)).bind fun p21 =>
      (call n_warrantorref02_Reader_Fail [AV.canon x0, AV.canon (.int .i64 10)] p21.2).bind fun p22 => retOr p22.1 (fun r23p => some (AEnd.pan r23p, p22.2)) fun r23 =>
      some (AEnd.ret (.str []), p22.2)) (
      (call n_warrantorref02_Reader_take [AV.canon x0, AV.canon r5] p4.2).bind fun p24 => retOr p24.1 (fun r25p => some (AEnd.pan r25p, p24.2)) fun r25 =>
      (bytesStr p24.2 r25).bind fun v26 =>
      some (AEnd.ret v26, p24.2))) := (hJ _ _ _ (by kernel_rfl)).trans (by kernel_rfl)
noncomputable def ref02_Reader_Word.A : FAnn := { nv := 4, mv := [(1, 0), (4, 16)], ld := [], lst := [], obj := [], q := [], raw := [] }
noncomputable def ref02_Reader_Word.an : Ann := .nil
noncomputable abbrev ref02_Reader_Word.c : Code := Tryz.f116.body.getD .skip
noncomputable def ref02_Reader_Word.J (call : Cl) (n : Nat) : Jn (AEnd × H) := realJ Tryz.prog ref02_Reader_Word.A call Tryz.f116 ref02_Reader_Word.an ref02_Reader_Word.c n
abbrev ref02_Reader_Word.F (call : Cl) (n : Nat) (J : Jn (AEnd × H)) : Prop := JFix Tryz.prog ref02_Reader_Word.A call Tryz.f116 ref02_Reader_Word.an ref02_Reader_Word.c n J
def ref02_Reader_Word.f (J : Jn (AEnd × H)) (x0 : AV) (h : H) : Option (AEnd × H) := J [] [] ⟨[(0, x0)], [], [], h⟩
theorem ref02_Reader_Word.f_eq {call : Cl} {n : Nat} {J : Jn (AEnd × H)} (hJ : ref02_Reader_Word.F call n J) (x0 : AV) (h : H) : ref02_Reader_Word.f J x0 h =
  (call n_warrantorref02_Reader_take [AV.canon x0, AV.canon (.int .i64 4)] h).bind fun p1 => retOr p1.1 (fun r2p => some (AEnd.pan r2p, p1.2)) fun r2 =>
  (lnSl r2).bind fun v3 =>
  (bin .lss v3 (.int .i64 4)).bind fun v4 =>
  condV v4 (
    some (AEnd.ret (.int .u32 0), p1.2)) (
    (ixSlice 1 r2 (.int .i64 0)).bind fun v5 =>
    (ldCell p1.2 v5).bind fun v6 =>
    (cvInt .u32 v6).bind fun v7 =>
    (ixSlice 1 r2 (.int .i64 1)).bind fun v8 =>
    (ldCell p1.2 v8).bind fun v9 =>
    (cvInt .u32 v9).bind fun v10 =>
    (bin .mul (.int .u32 256) v10).bind fun v11 =>
    (bin .add v7 v11).bind fun v12 =>
    (ixSlice 1 r2 (.int .i64 2)).bind fun v13 =>
    (ldCell p1.2 v13).bind fun v14 =>
    (cvInt .u32 v14).bind fun v15 =>
    (bin .mul (.int .u32 65536) v15).bind fun v16 =>
    (bin .add v12 v16).bind fun v17 =>
    (ixSlice 1 r2 (.int .i64 3)).bind fun v18 =>
    (ldCell p1.2 v18).bind fun v19 =>
    (cvInt .u32 v19).bind fun v20 =>
    (bin .mul (.int .u32 16777216) v20).bind fun v21 =>
    (bin .add v17 v21).bind fun v22 =>
    some (AEnd.ret (AV.copy v22), p1.2)) := (hJ _ _ _ (by kernel_rfl)).trans (by kernel_rfl)
noncomputable def ref01_Put.A : FAnn := { nv := 4, mv := [(3, 0), (4, 0), (5, 0), (5, 1)], ld := [], lst := [], obj := [], q := [], raw := [] }
noncomputable def ref01_Put.an : Ann := .mk none .nil (.mk none .nil (.mk none (.mk none (.mk none (.mk (some [(0, 0), (3, 255)]) .nil .nil) .nil) .nil) .nil))
noncomputable abbrev ref01_Put.c : Code := Tryz.f117.body.getD .skip
noncomputable def ref01_Put.J (call : Cl) (n : Nat) : Jn (AEnd × H) := realJ Tryz.prog ref01_Put.A call Tryz.f117 ref01_Put.an ref01_Put.c n
abbrev ref01_Put.F (call : Cl) (n : Nat) (J : Jn (AEnd × H)) : Prop := JFix Tryz.prog ref01_Put.A call Tryz.f117 ref01_Put.an ref01_Put.c n J
def ref01_Put.f (J : Jn (AEnd × H)) (x0 : AV) (h : H) : Option (AEnd × H) := J [] [] ⟨[(0, x0)], [], [], h⟩
def ref01_Put.l0 (J : Jn (AEnd × H)) (m0 : Nat) (x0 x3 : AV) (h : H) : Option (AEnd × H) := J [1, 1, 0, 0] [m0] ⟨[(0, x0), (3, x3)], [(0, 0), (3, 255)], [], h⟩
theorem ref01_Put.f_eq {call : Cl} {n : Nat} {J : Jn (AEnd × H)} (hJ : ref01_Put.F call n J) (x0 : AV) (h : H) : ref01_Put.f J x0 h =
  ref01_Put.l0 J n x0 (.list [] .cap) h := (hJ _ _ _ (by kernel_rfl)).trans (by kernel_rfl)
theorem ref01_Put.l0_eq {call : Cl} {n : Nat} {J : Jn (AEnd × H)} (hJ : ref01_Put.F call n J) (m0 : Nat) (x0 x3 : AV) (h : H) : ref01_Put.l0 J (m0 + 1) x0 x3 h =
  (bin .geq x0 (.int .u64 128)).bind fun v1 =>
  condV v1 (
    (bin .rem x0 (.int .u64 128)).bind fun v2 =>
    (bin .add v2 (.int .u64 128)).bind fun v3 =>
    (cvInt .u8 v3).bind fun v4 =>
    (mkRows 1 [.int .u8 0] 1 [(0, v4)]).bind fun v5 =>
    (apSlice 1 1 true true h x3 v5).bind fun v6 =>
    (bin .quo x0 (.int .u64 128)).bind fun v7 =>
    ref01_Put.l0 J m0 v7 v6 h) (
    (cvInt .u8 x0).bind fun v8 =>
    (mkRows 1 [.int .u8 0] 1 [(0, v8)]).bind fun v9 =>
    (apSlice 1 1 true true h x3 v9).bind fun v10 =>
    some (AEnd.ret v10, h)) := (hJ _ _ _ (by kernel_rfl)).trans (by kernel_rfl)
noncomputable def ref03_More.A : FAnn := { nv := 7, mv := [(1, 0), (4, 0), (5, 0), (6, 0)], ld := [], lst := [], obj := [], q := [], raw := [] }
noncomputable def ref03_More.an : Ann := .mk none .nil (.mk none .nil (.mk none (.mk none .nil (.mk none (.mk none (.mk (some [(1, 0), (5, 0), (6, 0)]) .nil .nil) .nil) .nil)) .nil))
noncomputable abbrev ref03_More.c : Code := Tryz.f118.body.getD .skip
noncomputable def ref03_More.J (call : Cl) (n : Nat) : Jn (AEnd × H) := realJ Tryz.prog ref03_More.A call Tryz.f118 ref03_More.an ref03_More.c n
abbrev ref03_More.F (call : Cl) (n : Nat) (J : Jn (AEnd × H)) : Prop := JFix Tryz.prog ref03_More.A call Tryz.f118 ref03_More.an ref03_More.c n J
def ref03_More.f (J : Jn (AEnd × H)) (x0 x1 : AV) (h : H) : Option (AEnd × H) := J [] [] ⟨[(0, x0), (1, x1)], [], [], h⟩
def ref03_More.l0 (J : Jn (AEnd × H)) (m0 : Nat) (x1 x5 x6 : AV) (h : H) : Option (AEnd × H) := J [1, 1, 0, 1, 0] [m0] ⟨[(1, x1), (5, x5), (6, x6)], [(1, 0), (5, 0), (6, 0)], [], h⟩
theorem ref03_More.f_eq {call : Cl} {n : Nat} {J : Jn (AEnd × H)} (hJ : ref03_More.F call n J) (x0 x1 : AV) (h : H) : ref03_More.f J x0 x1 h =
  (bin .sub (.int .u32 4294967295) x0).bind fun v1 =>
  ref03_More.l0 J n x1 v1 (.int .i64 0) h := (hJ _ _ _ (by kernel_rfl)).trans (by kernel_rfl)
theorem ref03_More.l0_eq {call : Cl} {n : Nat} {J : Jn (AEnd × H)} (hJ : ref03_More.F call n J) (m0 : Nat) (x1 x5 x6 : AV) (h : H) : ref03_More.l0 J (m0 + 1) x1 x5 x6 h =
  (lnSl x1).bind fun v2 =>
  (bin .lss x6 v2).bind fun v3 =>
  condV v3 (
    (ixSlice 1 x1 x6).bind fun v4 =>
    (ldCell h v4).bind fun v5 =>
    (call n_warrantorref03_take [AV.canon x5, AV.canon v5] h).bind fun p6 => retOr p6.1 (fun r7p => some (AEnd.pan r7p, p6.2)) fun r7 =>
    (bin .add x6 (.int .i64 1)).bind fun v8 =>
    ref03_More.l0 J m0 x1 r7 v8 p6.2) (
    (bin .sub (.int .u32 4294967295) x5).bind fun v9 =>
    some (AEnd.ret (AV.copy v9), h)) := (hJ _ _ _ (by kernel_rfl)).trans (by kernel_rfl)
noncomputable def ref02_Reader_U.A : FAnn := { nv := 6, mv := [(5, 0), (5, 1), (7, 1), (7, 5), (8, 0)], ld := [], lst := [], obj := [], q := [154], raw := [] }
noncomputable def ref02_Reader_U.an : Ann := .nil
noncomputable abbrev ref02_Reader_U.c : Code := Tryz.f119.body.getD .skip
noncomputable def ref02_Reader_U.J (call : Cl) (n : Nat) : Jn (AEnd × H) := realJ Tryz.prog ref02_Reader_U.A call Tryz.f119 ref02_Reader_U.an ref02_Reader_U.c n
abbrev ref02_Reader_U.F (call : Cl) (n : Nat) (J : Jn (AEnd × H)) : Prop := JFix Tryz.prog ref02_Reader_U.A call Tryz.f119 ref02_Reader_U.an ref02_Reader_U.c n J
def ref02_Reader_U.f (J : Jn (AEnd × H)) (x0 : AV) (h : H) : Option (AEnd × H) := J [] [] ⟨[(0, x0)], [], [], h⟩
theorem ref02_Reader_U.f_eq {call : Cl} {n : Nat} {J : Jn (AEnd × H)} (hJ : ref02_Reader_U.F call n J) (x0 : AV) (h : H) : ref02_Reader_U.f J x0 h =
  (nilOk x0).bind fun v1 =>
  (fAddr 2 v1).bind fun v2 =>
  (ldCell h v2).bind fun v3 =>
  (bin .neq v3 (.int .i64 0)).bind fun v4 =>
  condV v4 (
    some (AEnd.ret (.int .u64 0), h)) (
    (nilOk x0).bind fun v5 =>
    (fAddr 0 v5).bind fun v6 =>
    (ldCell h v6).bind fun v7 =>
    (nilOk x0).bind fun v8 =>
    (fAddr 1 v8).bind fun v9 =>
    (ldCell h v9).bind fun v10 =>
    (slSlice 1 v7 (some v10) none none).bind fun v11 =>
    (call n_warrantorref01_Get [AV.canon v11] h).bind fun p12 => retOr p12.1 (fun _ => none) fun r13 =>
    (exTuple 0 r13).bind fun v14 =>
    (exTuple 1 r13).bind fun v15 =>
    (exTuple 2 r13).bind fun v16 =>
    (bin .neq v16 (.int .i64 0)).bind fun v17 =>
    condV v17 (
      (call n_warrantorref02_Reader_Fail [AV.canon x0, AV.canon v16] p12.2).bind fun p18 => retOr p18.1 (fun r19p => some (AEnd.pan r19p, p18.2)) fun r19 =>
      some (AEnd.ret (.int .u64 0), p18.2)) (
      (nilOk x0).bind fun v20 =>
      (fAddr 1 v20).bind fun v21 =>
      (ldCell p12.2 v21).bind fun v22 =>
      (bin .add v22 v15).bind fun v23 =>
      (nilOk x0).bind fun v24 =>
      (fAddr 1 v24).bind fun v25 =>
      (stN 1 p12.2 v25 (AV.copy v23)).bind fun p26 =>
      some (AEnd.ret (AV.copy v14), p26.2))) := (hJ _ _ _ (by kernel_rfl)).trans (by kernel_rfl)
noncomputable def ref02_Reader_Fail.A : FAnn := { nv := 4, mv := [(3, 0), (3, 1)], ld := [], lst := [], obj := [], q := [], raw := [] }
noncomputable def ref02_Reader_Fail.an : Ann := .mk none .nil (.mk (some [(0, 0), (1, 0)]) .nil .nil)
noncomputable abbrev ref02_Reader_Fail.c : Code := Tryz.f120.body.getD .skip
noncomputable def ref02_Reader_Fail.J (call : Cl) (n : Nat) : Jn (AEnd × H) := realJ Tryz.prog ref02_Reader_Fail.A call Tryz.f120 ref02_Reader_Fail.an ref02_Reader_Fail.c n
abbrev ref02_Reader_Fail.F (call : Cl) (n : Nat) (J : Jn (AEnd × H)) : Prop := JFix Tryz.prog ref02_Reader_Fail.A call Tryz.f120 ref02_Reader_Fail.an ref02_Reader_Fail.c n J
def ref02_Reader_Fail.f (J : Jn (AEnd × H)) (x0 x1 : AV) (h : H) : Option (AEnd × H) := J [] [] ⟨[(0, x0), (1, x1)], [], [], h⟩
def ref02_Reader_Fail.j0 (J : Jn (AEnd × H)) (x0 x1 : AV) (h : H) : Option (AEnd × H) := J [1] [] ⟨[(0, x0), (1, x1)], [(0, 0), (1, 0)], [], h⟩
theorem ref02_Reader_Fail.f_eq {call : Cl} {n : Nat} {J : Jn (AEnd × H)} (hJ : ref02_Reader_Fail.F call n J) (x0 x1 : AV) (h : H) : ref02_Reader_Fail.f J x0 x1 h =
  (bin .eql x1 (.int .i64 0)).bind fun v1 =>
  condV v1 (
    ref02_Reader_Fail.j0 J  x0 (.int .i64 1) h) (
    ref02_Reader_Fail.j0 J  x0 x1 h) := (hJ _ _ _ (by kernel_rfl)).trans (by kernel_rfl)
theorem ref02_Reader_Fail.j0_eq {call : Cl} {n : Nat} {J : Jn (AEnd × H)} (hJ : ref02_Reader_Fail.F call n J) (x0 x1 : AV) (h : H) : ref02_Reader_Fail.j0 J  x0 x1 h =
  (nilOk x0).bind fun v2 =>
  (fAddr 2 v2).bind fun v3 =>
  (ldCell h v3).bind fun v4 =>
  (bin .eql v4 (.int .i64 0)).bind fun v5 =>
  condV v5 (
    (nilOk x0).bind fun v6 =>
    (fAddr 2 v6).bind fun v7 =>
    (stN 1 h v7 (AV.copy x1)).bind fun p8 =>
    some (AEnd.ret (.tuple []), p8.2)) (
    some (AEnd.ret (.tuple []), h)) := (hJ _ _ _ (by kernel_rfl)).trans (by kernel_rfl)
noncomputable def ref27_finger.A : FAnn := { nv := 4, mv := [(2, 0), (2, 1)], ld := [], lst := [], obj := [], q := [], raw := [] }
noncomputable def ref27_finger.an : Ann := .nil
noncomputable abbrev ref27_finger.c : Code := Tryz.f121.body.getD .skip
noncomputable def ref27_finger.J (call : Cl) (n : Nat) : Jn (AEnd × H) := realJ Tryz.prog ref27_finger.A call Tryz.f121 ref27_finger.an ref27_finger.c n
abbrev ref27_finger.F (call : Cl) (n : Nat) (J : Jn (AEnd × H)) : Prop := JFix Tryz.prog ref27_finger.A call Tryz.f121 ref27_finger.an ref27_finger.c n J
def ref27_finger.f (J : Jn (AEnd × H)) (x0 : AV) (h : H) : Option (AEnd × H) := J [] [] ⟨[(0, x0)], [], [], h⟩
theorem ref27_finger.f_eq {call : Cl} {n : Nat} {J : Jn (AEnd × H)} (hJ : ref27_finger.F call n J) (x0 : AV) (h : H) : ref27_finger.f J x0 h =
  (call n_warrantorref02_Reader_Word [AV.canon x0] h).bind fun p1 => retOr p1.1 (fun r2p => some (AEnd.pan r2p, p1.2)) fun r2 =>
  (cvInt .u64 r2).bind fun v3 =>
  (call n_warrantorref02_Reader_Word [AV.canon x0] p1.2).bind fun p4 => retOr p4.1 (fun r5p => some (AEnd.pan r5p, p4.2)) fun r5 =>
  (cvInt .u64 r5).bind fun v6 =>
  (bin .mul (.int .u64 4294967296) v6).bind fun v7 =>
  (bin .add v3 v7).bind fun v8 =>
  some (AEnd.ret (AV.copy v8), p4.2) := (hJ _ _ _ (by kernel_rfl)).trans (by kernel_rfl)
noncomputable def leb_Put.A : FAnn := { nv := 4, mv := [(3, 0), (4, 0), (5, 0), (5, 1)], ld := [], lst := [(1, 0)], obj := [], q := [], raw := [] }
noncomputable def leb_Put.an : Ann := .mk none .nil (.mk none .nil (.mk none (.mk none (.mk none (.mk (some [(0, 0), (3, 255)]) .nil .nil) .nil) .nil) .nil))
noncomputable abbrev leb_Put.c : Code := Tryz.f122.body.getD .skip
noncomputable def leb_Put.J (call : Cl) (n : Nat) : Jn (AEnd × H) := realJ Tryz.prog leb_Put.A call Tryz.f122 leb_Put.an leb_Put.c n
abbrev leb_Put.F (call : Cl) (n : Nat) (J : Jn (AEnd × H)) : Prop := JFix Tryz.prog leb_Put.A call Tryz.f122 leb_Put.an leb_Put.c n J
def leb_Put.f (J : Jn (AEnd × H)) (x0 : AV) (h : H) : Option (AEnd × H) := J [] [] ⟨[(0, x0)], [], [], h⟩
def leb_Put.l0 (J : Jn (AEnd × H)) (m0 : Nat) (x0 x3 : AV) (h : H) : Option (AEnd × H) := J [1, 1, 0, 0] [m0] ⟨[(0, x0), (3, x3)], [(0, 0), (3, 255)], [], h⟩
theorem leb_Put.f_eq {call : Cl} {n : Nat} {J : Jn (AEnd × H)} (hJ : leb_Put.F call n J) (x0 : AV) (h : H) : leb_Put.f J x0 h =
  (mkSlice 1 1 [.int .u8 0] true h (.int .i64 0) (.int .i64 10)).bind fun p1 =>
  leb_Put.l0 J n x0 p1.1 p1.2 := (hJ _ _ _ (by kernel_rfl)).trans (by kernel_rfl)
theorem leb_Put.l0_eq {call : Cl} {n : Nat} {J : Jn (AEnd × H)} (hJ : leb_Put.F call n J) (m0 : Nat) (x0 x3 : AV) (h : H) : leb_Put.l0 J (m0 + 1) x0 x3 h =
  (bin .geq x0 (.int .u64 128)).bind fun v2 =>
  condV v2 (
    (cvInt .u8 x0).bind fun v3 =>
    (bin .or v3 (.int .u8 128)).bind fun v4 =>
    (mkRows 1 [.int .u8 0] 1 [(0, v4)]).bind fun v5 =>
    (apSlice 1 1 true true h x3 v5).bind fun v6 =>
    (bin .shr x0 (.int .u64 7)).bind fun v7 =>
    leb_Put.l0 J m0 v7 v6 h) (
    (cvInt .u8 x0).bind fun v8 =>
    (mkRows 1 [.int .u8 0] 1 [(0, v8)]).bind fun v9 =>
    (apSlice 1 1 true true h x3 v9).bind fun v10 =>
    some (AEnd.ret v10, h)) := (hJ _ _ _ (by kernel_rfl)).trans (by kernel_rfl)
noncomputable def rec_taker_num.A : FAnn := { nv := 2, mv := [], ld := [], lst := [], obj := [], q := [], raw := [] }
noncomputable def rec_taker_num.an : Ann := .nil
noncomputable abbrev rec_taker_num.c : Code := Tryz.f126.body.getD .skip
noncomputable def rec_taker_num.J (call : Cl) (n : Nat) : Jn (AEnd × H) := realJ Tryz.prog rec_taker_num.A call Tryz.f126 rec_taker_num.an rec_taker_num.c n
abbrev rec_taker_num.F (call : Cl) (n : Nat) (J : Jn (AEnd × H)) : Prop := JFix Tryz.prog rec_taker_num.A call Tryz.f126 rec_taker_num.an rec_taker_num.c n J
def rec_taker_num.f (J : Jn (AEnd × H)) (x0 : AV) (h : H) : Option (AEnd × H) := J [] [] ⟨[(0, x0)], [], [], h⟩
theorem rec_taker_num.f_eq {call : Cl} {n : Nat} {J : Jn (AEnd × H)} (hJ : rec_taker_num.F call n J) (x0 : AV) (h : H) : rec_taker_num.f J x0 h =
  (bx h (AV.copy x0)).bind fun p1 =>
  (fAddr 0 p1.1).bind fun v2 =>
  (ldCell p1.2 v2).bind fun v3 =>
  (call n_cur_Reader_Count [AV.canon v3, AV.canon (.int .i64 1048576)] p1.2).bind fun p4 => retOr p4.1 (fun r5p => some (AEnd.pan r5p, p4.2)) fun r5 =>
  some (AEnd.ret r5, p4.2) := (hJ _ _ _ (by kernel_rfl)).trans (by kernel_rfl)
noncomputable def rec_taker_text.A : FAnn := { nv := 2, mv := [], ld := [], lst := [], obj := [], q := [], raw := [] }
noncomputable def rec_taker_text.an : Ann := .nil
noncomputable abbrev rec_taker_text.c : Code := Tryz.f127.body.getD .skip
noncomputable def rec_taker_text.J (call : Cl) (n : Nat) : Jn (AEnd × H) := realJ Tryz.prog rec_taker_text.A call Tryz.f127 rec_taker_text.an rec_taker_text.c n
abbrev rec_taker_text.F (call : Cl) (n : Nat) (J : Jn (AEnd × H)) : Prop := JFix Tryz.prog rec_taker_text.A call Tryz.f127 rec_taker_text.an rec_taker_text.c n J
def rec_taker_text.f (J : Jn (AEnd × H)) (x0 : AV) (h : H) : Option (AEnd × H) := J [] [] ⟨[(0, x0)], [], [], h⟩
theorem rec_taker_text.f_eq {call : Cl} {n : Nat} {J : Jn (AEnd × H)} (hJ : rec_taker_text.F call n J) (x0 : AV) (h : H) : rec_taker_text.f J x0 h =
  (bx h (AV.copy x0)).bind fun p1 =>
  (fAddr 0 p1.1).bind fun v2 =>
  (ldCell p1.2 v2).bind fun v3 =>
  (call n_cur_Reader_Text [AV.canon v3, AV.canon (.int .i64 1048576)] p1.2).bind fun p4 => retOr p4.1 (fun r5p => some (AEnd.pan r5p, p4.2)) fun r5 =>
  some (AEnd.ret r5, p4.2) := (hJ _ _ _ (by kernel_rfl)).trans (by kernel_rfl)
noncomputable def alarm_expr_c1.A : FAnn := { nv := 2, mv := [(1, 3)], ld := [], lst := [], obj := [], q := [], raw := [] }
noncomputable def alarm_expr_c1.an : Ann := .nil
noncomputable abbrev alarm_expr_c1.c : Code := Tryz.f128.body.getD .skip
noncomputable def alarm_expr_c1.J (call : Cl) (n : Nat) : Jn (AEnd × H) := realJ Tryz.prog alarm_expr_c1.A call Tryz.f128 alarm_expr_c1.an alarm_expr_c1.c n
abbrev alarm_expr_c1.F (call : Cl) (n : Nat) (J : Jn (AEnd × H)) : Prop := JFix Tryz.prog alarm_expr_c1.A call Tryz.f128 alarm_expr_c1.an alarm_expr_c1.c n J
def alarm_expr_c1.f (J : Jn (AEnd × H)) (x0 : AV) (h : H) : Option (AEnd × H) := J [] [] ⟨[(0, x0)], [], [], h⟩
theorem alarm_expr_c1.f_eq {call : Cl} {n : Nat} {J : Jn (AEnd × H)} (hJ : alarm_expr_c1.F call n J) (x0 : AV) (h : H) : alarm_expr_c1.f J x0 h =
  (bin .lss x0 (.int .i32 32)).bind fun v1 =>
  condV v1 (
    some (AEnd.ret (AV.copy (.bool true)), h)) (
    (bin .gtr x0 (.int .i32 126)).bind fun v2 =>
    some (AEnd.ret (AV.copy v2), h)) := (hJ _ _ _ (by kernel_rfl)).trans (by kernel_rfl)
noncomputable def strings_ContainsFunc.A : FAnn := { nv := 4, mv := [(1, 0), (1, 1)], ld := [], lst := [], obj := [], q := [], raw := [] }
noncomputable def strings_ContainsFunc.an : Ann := .nil
noncomputable abbrev strings_ContainsFunc.c : Code := Tryz.f129.body.getD .skip
noncomputable def strings_ContainsFunc.J (call : Cl) (n : Nat) : Jn (AEnd × H) := realJ Tryz.prog strings_ContainsFunc.A call Tryz.f129 strings_ContainsFunc.an strings_ContainsFunc.c n
abbrev strings_ContainsFunc.F (call : Cl) (n : Nat) (J : Jn (AEnd × H)) : Prop := JFix Tryz.prog strings_ContainsFunc.A call Tryz.f129 strings_ContainsFunc.an strings_ContainsFunc.c n J
def strings_ContainsFunc.f (J : Jn (AEnd × H)) (x0 x1 : AV) (h : H) : Option (AEnd × H) := J [] [] ⟨[(0, x0), (1, x1)], [], [], h⟩
theorem strings_ContainsFunc.f_eq {call : Cl} {n : Nat} {J : Jn (AEnd × H)} (hJ : strings_ContainsFunc.F call n J) (x0 x1 : AV) (h : H) : strings_ContainsFunc.f J x0 x1 h =
  (call n_strings_IndexFunc [AV.canon x0, AV.canon x1] h).bind fun p1 => retOr p1.1 (fun r2p => some (AEnd.pan r2p, p1.2)) fun r2 =>
  (bin .geq r2 (.int .i64 0)).bind fun v3 =>
  some (AEnd.ret (AV.copy v3), p1.2) := (hJ _ _ _ (by kernel_rfl)).trans (by kernel_rfl)
noncomputable def prog_Check_c1.A : FAnn := { nv := 4, mv := [], ld := [], lst := [], obj := [], q := [], raw := [] }
noncomputable def prog_Check_c1.an : Ann := .nil
noncomputable abbrev prog_Check_c1.c : Code := Tryz.f130.body.getD .skip
noncomputable def prog_Check_c1.J (call : Cl) (n : Nat) : Jn (AEnd × H) := realJ Tryz.prog prog_Check_c1.A call Tryz.f130 prog_Check_c1.an prog_Check_c1.c n
abbrev prog_Check_c1.F (call : Cl) (n : Nat) (J : Jn (AEnd × H)) : Prop := JFix Tryz.prog prog_Check_c1.A call Tryz.f130 prog_Check_c1.an prog_Check_c1.c n J
def prog_Check_c1.f (J : Jn (AEnd × H)) (x0 x1 x2 : AV) (h : H) : Option (AEnd × H) := J [] [] ⟨[(0, x0), (1, x1), (2, x2)], [], [], h⟩
theorem prog_Check_c1.f_eq {call : Cl} {n : Nat} {J : Jn (AEnd × H)} (hJ : prog_Check_c1.F call n J) (x0 x1 x2 : AV) (h : H) : prog_Check_c1.f J x0 x1 x2 h =
  (bx h (AV.copy x0)).bind fun p1 =>
  (fAddr 0 p1.1).bind fun v2 =>
  (ldCell p1.2 v2).bind fun v3 =>
  (ldCell p1.2 x1).bind fun v4 =>
  (bin .sub v4 (.int .i64 1)).bind fun v5 =>
  (call n_prog_some [AV.canon v3, AV.canon v5] p1.2).bind fun p6 => retOr p6.1 (fun r7p => some (AEnd.pan r7p, p6.2)) fun r7 =>
  (unOp .not r7).bind fun v8 =>
  condV v8 (
    some (AEnd.ret (AV.copy (.bool true)), p6.2)) (
    (fAddr 1 p1.1).bind fun v9 =>
    (ldCell p6.2 v9).bind fun v10 =>
    (ldCell p6.2 x1).bind fun v11 =>
    (bin .sub v11 (.int .i64 1)).bind fun v12 =>
    (call n_prog_some [AV.canon v10, AV.canon v12] p6.2).bind fun p13 => retOr p13.1 (fun r14p => some (AEnd.pan r14p, p13.2)) fun r14 =>
    (unOp .not r14).bind fun v15 =>
    condV v15 (
      some (AEnd.ret (AV.copy (.bool true)), p13.2)) (
      (fAddr 2 p1.1).bind fun v16 =>
      (ldAgg 5 p13.2 v16).bind fun v17 =>
      (fAddr 1 x2).bind fun v18 =>
      (ldCell p13.2 v18).bind fun v19 =>
      (lnSl v19).bind fun v20 =>
      (call n_prog_Right [AV.canon v17, AV.canon v20] p13.2).bind fun p21 => retOr p21.1 (fun r22p => some (AEnd.pan r22p, p21.2)) fun r22 =>
      (unOp .not r22).bind fun v23 =>
      some (AEnd.ret (AV.copy v23), p21.2))) := (hJ _ _ _ (by kernel_rfl)).trans (by kernel_rfl)
noncomputable def prog_some.A : FAnn := { nv := 4, mv := [(1, 3), (1, 4)], ld := [], lst := [], obj := [], q := [], raw := [] }
noncomputable def prog_some.an : Ann := .nil
noncomputable abbrev prog_some.c : Code := Tryz.f131.body.getD .skip
noncomputable def prog_some.J (call : Cl) (n : Nat) : Jn (AEnd × H) := realJ Tryz.prog prog_some.A call Tryz.f131 prog_some.an prog_some.c n
abbrev prog_some.F (call : Cl) (n : Nat) (J : Jn (AEnd × H)) : Prop := JFix Tryz.prog prog_some.A call Tryz.f131 prog_some.an prog_some.c n J
def prog_some.f (J : Jn (AEnd × H)) (x0 x1 : AV) (h : H) : Option (AEnd × H) := J [] [] ⟨[(0, x0), (1, x1)], [], [], h⟩
theorem prog_some.f_eq {call : Cl} {n : Nat} {J : Jn (AEnd × H)} (hJ : prog_some.F call n J) (x0 x1 : AV) (h : H) : prog_some.f J x0 x1 h =
  (bin .geq x0 (.int .i64 0)).bind fun v1 =>
  condV v1 (
    (bin .leq x0 x1).bind fun v2 =>
    some (AEnd.ret (AV.copy v2), h)) (
    some (AEnd.ret (AV.copy (.bool false)), h)) := (hJ _ _ _ (by kernel_rfl)).trans (by kernel_rfl)
noncomputable def prog_Right.A : FAnn := { nv := 4, mv := [(3, 5)], ld := [], lst := [], obj := [], q := [156], raw := [] }
noncomputable def prog_Right.an : Ann := .mk none .nil (.mk none (.mk none .nil (.mk (some [(1, 0), (2, 0), (13, 0)]) .nil .nil)) (.mk (some [(1, 0), (2, 0)]) .nil .nil))
noncomputable abbrev prog_Right.c : Code := Tryz.f132.body.getD .skip
noncomputable def prog_Right.J (call : Cl) (n : Nat) : Jn (AEnd × H) := realJ Tryz.prog prog_Right.A call Tryz.f132 prog_Right.an prog_Right.c n
abbrev prog_Right.F (call : Cl) (n : Nat) (J : Jn (AEnd × H)) : Prop := JFix Tryz.prog prog_Right.A call Tryz.f132 prog_Right.an prog_Right.c n J
def prog_Right.f (J : Jn (AEnd × H)) (x0 x1 : AV) (h : H) : Option (AEnd × H) := J [] [] ⟨[(0, x0), (1, x1)], [], [], h⟩
def prog_Right.j1 (J : Jn (AEnd × H)) (x1 x2 x13 : AV) (h : H) : Option (AEnd × H) := J [1, 0, 1] [] ⟨[(1, x1), (2, x2), (13, x13)], [(1, 0), (2, 0), (13, 0)], [], h⟩
def prog_Right.j0 (J : Jn (AEnd × H)) (x1 x2 : AV) (h : H) : Option (AEnd × H) := J [1, 1] [] ⟨[(1, x1), (2, x2)], [(1, 0), (2, 0)], [], h⟩
theorem prog_Right.f_eq {call : Cl} {n : Nat} {J : Jn (AEnd × H)} (hJ : prog_Right.F call n J) (x0 x1 : AV) (h : H) : prog_Right.f J x0 x1 h =
  (bx h (AV.copy x0)).bind fun p1 =>
  (call n_prog_some [AV.canon x1, AV.canon (.int .i64 8)] p1.2).bind fun p2 => retOr p2.1 (fun r3p => some (AEnd.pan r3p, p2.2)) fun r3 =>
  (unOp .not r3).bind fun v4 =>
  condV v4 (
    prog_Right.j1 J  x1 p1.1 (.bool true) p2.2) (
    (fAddr 0 p1.1).bind fun v5 =>
    (ldCell p2.2 v5).bind fun v6 =>
    (call n_prog_one [AV.canon v6, AV.canon (.int .i64 5)] p2.2).bind fun p7 => retOr p7.1 (fun r8p => some (AEnd.pan r8p, p7.2)) fun r8 =>
    (unOp .not r8).bind fun v9 =>
    prog_Right.j1 J  x1 p1.1 v9 p7.2) := (hJ _ _ _ (by kernel_rfl)).trans (by kernel_rfl)
theorem prog_Right.j1_eq {call : Cl} {n : Nat} {J : Jn (AEnd × H)} (hJ : prog_Right.F call n J) (x1 x2 x13 : AV) (h : H) : prog_Right.j1 J  x1 x2 x13 h =
  condV x13 (
    some (AEnd.ret (.bool false), h)) (
    prog_Right.j0 J  x1 x2 h) := (hJ _ _ _ (by kernel_rfl)).trans (by kernel_rfl)
theorem prog_Right.j0_eq {call : Cl} {n : Nat} {J : Jn (AEnd × H)} (hJ : prog_Right.F call n J) (x1 x2 : AV) (h : H) : prog_Right.j0 J  x1 x2 h =
  (call n_prog_kinds [] h).bind fun p10 => retOr p10.1 (fun _ => none) fun r11 =>
  (fAddr 0 x2).bind fun v12 =>
  (ldCell p10.2 v12).bind fun v13 =>
  (ixAgg false 1 6 r11 v13).bind fun v14 =>
  (ldAgg 5 p10.2 x2).bind fun v15 =>
  (callVal call p10.2 v14 [AV.canon v15, AV.canon x1]).bind fun p16 => retOr p16.1 (fun _ => none) fun r17 =>
  some (AEnd.ret (AV.copy r17), p16.2) := (hJ _ _ _ (by kernel_rfl)).trans (by kernel_rfl)
noncomputable def prog_name.A : FAnn := { nv := 2, mv := [(1, 0)], ld := [], lst := [], obj := [], q := [], raw := [] }
noncomputable def prog_name.an : Ann := .nil
noncomputable abbrev prog_name.c : Code := Tryz.f133.body.getD .skip
noncomputable def prog_name.J (call : Cl) (n : Nat) : Jn (AEnd × H) := realJ Tryz.prog prog_name.A call Tryz.f133 prog_name.an prog_name.c n
abbrev prog_name.F (call : Cl) (n : Nat) (J : Jn (AEnd × H)) : Prop := JFix Tryz.prog prog_name.A call Tryz.f133 prog_name.an prog_name.c n J
def prog_name.f (J : Jn (AEnd × H)) (x0 : AV) (h : H) : Option (AEnd × H) := J [] [] ⟨[(0, x0)], [], [], h⟩
theorem prog_name.f_eq {call : Cl} {n : Nat} {J : Jn (AEnd × H)} (hJ : prog_name.F call n J) (x0 : AV) (h : H) : prog_name.f J x0 h =
  (call n_prog_named [AV.canon x0, AV.canon (.int .i64 32), AV.canon (.func (.func n_prog_plain) [] [])] h).bind fun p1 => retOr p1.1 (fun r2p => some (AEnd.pan r2p, p1.2)) fun r2 =>
  some (AEnd.ret r2, p1.2) := (hJ _ _ _ (by kernel_rfl)).trans (by kernel_rfl)
noncomputable def prog_vars.A : FAnn := { nv := 6, mv := [(6, 5), (9, 0)], ld := [], lst := [], obj := [], q := [], raw := [] }
noncomputable def prog_vars.an : Ann := .mk none .nil (.mk none .nil (.mk none (.mk none .nil (.mk none (.mk none (.mk (some [(0, 0), (3, 0), (8, 0), (9, 0), (10, 0)]) .nil (.mk none .nil (.mk none (.mk none (.mk none .nil (.mk none .nil (.mk none .nil (.mk (some [(0, 0), (3, 0), (8, 0), (9, 0), (10, 0), (26, 0)]) .nil .nil)))) .nil) .nil))) .nil) .nil)) .nil))
noncomputable abbrev prog_vars.c : Code := Tryz.f134.body.getD .skip
noncomputable def prog_vars.J (call : Cl) (n : Nat) : Jn (AEnd × H) := realJ Tryz.prog prog_vars.A call Tryz.f134 prog_vars.an prog_vars.c n
abbrev prog_vars.F (call : Cl) (n : Nat) (J : Jn (AEnd × H)) : Prop := JFix Tryz.prog prog_vars.A call Tryz.f134 prog_vars.an prog_vars.c n J
def prog_vars.f (J : Jn (AEnd × H)) (x0 : AV) (h : H) : Option (AEnd × H) := J [] [] ⟨[(0, x0)], [], [], h⟩
def prog_vars.l0 (J : Jn (AEnd × H)) (m0 : Nat) (x0 x3 x8 x9 x10 : AV) (h : H) : Option (AEnd × H) := J [1, 1, 0, 1, 0] [m0] ⟨[(0, x0), (3, x3), (8, x8), (9, x9), (10, x10)], [(0, 0), (3, 0), (8, 0), (9, 0), (10, 0)], [], h⟩
def prog_vars.j0 (J : Jn (AEnd × H)) (m0 : Nat) (x0 x3 x8 x9 x10 x26 : AV) (h : H) : Option (AEnd × H) := J [1, 1, 0, 1, 0, 0, 1, 1, 0, 0, 1, 1, 1] [m0] ⟨[(0, x0), (3, x3), (8, x8), (9, x9), (10, x10), (26, x26)], [(0, 0), (3, 0), (8, 0), (9, 0), (10, 0), (26, 0)], [], h⟩
theorem prog_vars.f_eq {call : Cl} {n : Nat} {J : Jn (AEnd × H)} (hJ : prog_vars.F call n J) (x0 : AV) (h : H) : prog_vars.f J x0 h =
  let h1 : H := h ++ [.map []]
  (upMap .str h1 (.map h.length) (.str [115, 107, 105, 112]) (.int .i64 1)).bind fun p2 =>
  (upMap .str p2.2 (.map h.length) (.str [97, 110, 121]) (.int .i64 1)).bind fun p3 =>
  (upMap .str p3.2 (.map h.length) (.str [108, 105, 109, 105, 116]) (.int .i64 1)).bind fun p4 =>
  (upMap .str p4.2 (.map h.length) (.str [99, 104, 101, 99, 107]) (.int .i64 1)).bind fun p5 =>
  (upMap .str p5.2 (.map h.length) (.str [105, 110, 102]) (.int .i64 1)).bind fun p6 =>
  (lnSl x0).bind fun v7 =>
  prog_vars.l0 J n x0 (.map h.length) x0 v7 (.int .i64 0) p6.2 := (hJ _ _ _ (by kernel_rfl)).trans (by kernel_rfl)
theorem prog_vars.l0_eq {call : Cl} {n : Nat} {J : Jn (AEnd × H)} (hJ : prog_vars.F call n J) (m0 : Nat) (x0 x3 x8 x9 x10 : AV) (h : H) : prog_vars.l0 J (m0 + 1) x0 x3 x8 x9 x10 h =
  (bin .lss x10 x9).bind fun v8 =>
  condV v8 (
    (ixSlice 1 x8 x10).bind fun v9 =>
    (ldCell h v9).bind fun v10 =>
    (lkMap .str (.int .i64 0) h x3 v10 false).bind fun v11 =>
    (bin .add v11 (.int .i64 1)).bind fun v12 =>
    (upMap .str h x3 v10 v12).bind fun p13 =>
    (call n_prog_name [AV.canon v10] p13.2).bind fun p14 => retOr p14.1 (fun r15p => some (AEnd.pan r15p, p14.2)) fun r15 =>
    (unOp .not r15).bind fun v16 =>
    condV v16 (
      prog_vars.j0 J m0 x0 x3 x8 x9 x10 (.bool true) p14.2) (
      (lkMap .str (.int .i64 0) p14.2 x3 v10 false).bind fun v17 =>
      (bin .gtr v17 (.int .i64 1)).bind fun v18 =>
      prog_vars.j0 J m0 x0 x3 x8 x9 x10 v18 p14.2)) (
    (lnSl x0).bind fun v19 =>
    (bin .leq v19 (.int .i64 8)).bind fun v20 =>
    some (AEnd.ret (AV.copy v20), h)) := (hJ _ _ _ (by kernel_rfl)).trans (by kernel_rfl)
theorem prog_vars.j0_eq {call : Cl} {n : Nat} {J : Jn (AEnd × H)} (hJ : prog_vars.F call n J) (m0 : Nat) (x0 x3 x8 x9 x10 x26 : AV) (h : H) : prog_vars.j0 J m0 x0 x3 x8 x9 x10 x26 h =
  condV x26 (
    some (AEnd.ret (.bool false), h)) (
    (bin .add x10 (.int .i64 1)).bind fun v21 =>
    prog_vars.l0 J m0 x0 x3 x8 x9 v21 h) := (hJ _ _ _ (by kernel_rfl)).trans (by kernel_rfl)
noncomputable def prog_one.A : FAnn := { nv := 4, mv := [(1, 3), (1, 4)], ld := [], lst := [], obj := [], q := [], raw := [] }
noncomputable def prog_one.an : Ann := .nil
noncomputable abbrev prog_one.c : Code := Tryz.f135.body.getD .skip
noncomputable def prog_one.J (call : Cl) (n : Nat) : Jn (AEnd × H) := realJ Tryz.prog prog_one.A call Tryz.f135 prog_one.an prog_one.c n
abbrev prog_one.F (call : Cl) (n : Nat) (J : Jn (AEnd × H)) : Prop := JFix Tryz.prog prog_one.A call Tryz.f135 prog_one.an prog_one.c n J
def prog_one.f (J : Jn (AEnd × H)) (x0 x1 : AV) (h : H) : Option (AEnd × H) := J [] [] ⟨[(0, x0), (1, x1)], [], [], h⟩
theorem prog_one.f_eq {call : Cl} {n : Nat} {J : Jn (AEnd × H)} (hJ : prog_one.F call n J) (x0 x1 : AV) (h : H) : prog_one.f J x0 x1 h =
  (bin .geq x0 (.int .i64 1)).bind fun v1 =>
  condV v1 (
    (bin .leq x0 x1).bind fun v2 =>
    some (AEnd.ret (AV.copy v2), h)) (
    some (AEnd.ret (AV.copy (.bool false)), h)) := (hJ _ _ _ (by kernel_rfl)).trans (by kernel_rfl)
noncomputable def slices_ContainsFunc_api_Spot_api_Spot.A : FAnn := { nv := 4, mv := [(1, 0), (1, 1)], ld := [], lst := [], obj := [], q := [], raw := [] }
noncomputable def slices_ContainsFunc_api_Spot_api_Spot.an : Ann := .nil
noncomputable abbrev slices_ContainsFunc_api_Spot_api_Spot.c : Code := Tryz.f136.body.getD .skip
noncomputable def slices_ContainsFunc_api_Spot_api_Spot.J (call : Cl) (n : Nat) : Jn (AEnd × H) := realJ Tryz.prog slices_ContainsFunc_api_Spot_api_Spot.A call Tryz.f136 slices_ContainsFunc_api_Spot_api_Spot.an slices_ContainsFunc_api_Spot_api_Spot.c n
abbrev slices_ContainsFunc_api_Spot_api_Spot.F (call : Cl) (n : Nat) (J : Jn (AEnd × H)) : Prop := JFix Tryz.prog slices_ContainsFunc_api_Spot_api_Spot.A call Tryz.f136 slices_ContainsFunc_api_Spot_api_Spot.an slices_ContainsFunc_api_Spot_api_Spot.c n J
def slices_ContainsFunc_api_Spot_api_Spot.f (J : Jn (AEnd × H)) (x0 x1 : AV) (h : H) : Option (AEnd × H) := J [] [] ⟨[(0, x0), (1, x1)], [], [], h⟩
theorem slices_ContainsFunc_api_Spot_api_Spot.f_eq {call : Cl} {n : Nat} {J : Jn (AEnd × H)} (hJ : slices_ContainsFunc_api_Spot_api_Spot.F call n J) (x0 x1 : AV) (h : H) : slices_ContainsFunc_api_Spot_api_Spot.f J x0 x1 h =
  (call n_slices_IndexFunc_api_Spot_api_Spot [AV.canon x0, AV.canon x1] h).bind fun p1 => retOr p1.1 (fun r2p => some (AEnd.pan r2p, p1.2)) fun r2 =>
  (bin .geq r2 (.int .i64 0)).bind fun v3 =>
  some (AEnd.ret (AV.copy v3), p1.2) := (hJ _ _ _ (by kernel_rfl)).trans (by kernel_rfl)
noncomputable def prog_Check_c2.A : FAnn := { nv := 2, mv := [], ld := [], lst := [], obj := [], q := [], raw := [] }
noncomputable def prog_Check_c2.an : Ann := .nil
noncomputable abbrev prog_Check_c2.c : Code := Tryz.f137.body.getD .skip
noncomputable def prog_Check_c2.J (call : Cl) (n : Nat) : Jn (AEnd × H) := realJ Tryz.prog prog_Check_c2.A call Tryz.f137 prog_Check_c2.an prog_Check_c2.c n
abbrev prog_Check_c2.F (call : Cl) (n : Nat) (J : Jn (AEnd × H)) : Prop := JFix Tryz.prog prog_Check_c2.A call Tryz.f137 prog_Check_c2.an prog_Check_c2.c n J
def prog_Check_c2.f (J : Jn (AEnd × H)) (x0 : AV) (h : H) : Option (AEnd × H) := J [] [] ⟨[(0, x0)], [], [], h⟩
theorem prog_Check_c2.f_eq {call : Cl} {n : Nat} {J : Jn (AEnd × H)} (hJ : prog_Check_c2.F call n J) (x0 : AV) (h : H) : prog_Check_c2.f J x0 h =
  (bx h (AV.copy x0)).bind fun p1 =>
  (ldAgg 3 p1.2 p1.1).bind fun v2 =>
  (call n_prog_spot [AV.canon v2] p1.2).bind fun p3 => retOr p3.1 (fun r4p => some (AEnd.pan r4p, p3.2)) fun r4 =>
  (unOp .not r4).bind fun v5 =>
  some (AEnd.ret (AV.copy v5), p3.2) := (hJ _ _ _ (by kernel_rfl)).trans (by kernel_rfl)
noncomputable def prog_spot.A : FAnn := { nv := 2, mv := [], ld := [], lst := [], obj := [], q := [], raw := [] }
noncomputable def prog_spot.an : Ann := .nil
noncomputable abbrev prog_spot.c : Code := Tryz.f138.body.getD .skip
noncomputable def prog_spot.J (call : Cl) (n : Nat) : Jn (AEnd × H) := realJ Tryz.prog prog_spot.A call Tryz.f138 prog_spot.an prog_spot.c n
abbrev prog_spot.F (call : Cl) (n : Nat) (J : Jn (AEnd × H)) : Prop := JFix Tryz.prog prog_spot.A call Tryz.f138 prog_spot.an prog_spot.c n J
def prog_spot.f (J : Jn (AEnd × H)) (x0 : AV) (h : H) : Option (AEnd × H) := J [] [] ⟨[(0, x0)], [], [], h⟩
theorem prog_spot.f_eq {call : Cl} {n : Nat} {J : Jn (AEnd × H)} (hJ : prog_spot.F call n J) (x0 : AV) (h : H) : prog_spot.f J x0 h =
  (bx h (AV.copy x0)).bind fun p1 =>
  (fAddr 0 p1.1).bind fun v2 =>
  (ldCell p1.2 v2).bind fun v3 =>
  (call n_prog_name [AV.canon v3] p1.2).bind fun p4 => retOr p4.1 (fun r5p => some (AEnd.pan r5p, p4.2)) fun r5 =>
  condV r5 (
    (fAddr 1 p1.1).bind fun v6 =>
    (ldCell p4.2 v6).bind fun v7 =>
    (call n_prog_named [AV.canon v7, AV.canon (.int .i64 64), AV.canon (.func (.func n_prog_path) [] [])] p4.2).bind fun p8 => retOr p8.1 (fun r9p => some (AEnd.pan r9p, p8.2)) fun r9 =>
    condV r9 (
      (fAddr 2 p1.1).bind fun v10 =>
      (ldCell p8.2 v10).bind fun v11 =>
      (call n_prog_one [AV.canon v11, AV.canon (.int .i64 1048576)] p8.2).bind fun p12 => retOr p12.1 (fun r13p => some (AEnd.pan r13p, p12.2)) fun r13 =>
      some (AEnd.ret (AV.copy r13), p12.2)) (
      some (AEnd.ret (AV.copy (.bool false)), p8.2))) (
    some (AEnd.ret (AV.copy (.bool false)), p4.2)) := (hJ _ _ _ (by kernel_rfl)).trans (by kernel_rfl)
noncomputable def slices_ContainsFunc_api_Edge_api_Edge.A : FAnn := { nv := 4, mv := [(1, 0), (1, 1)], ld := [], lst := [], obj := [], q := [], raw := [] }
noncomputable def slices_ContainsFunc_api_Edge_api_Edge.an : Ann := .nil
noncomputable abbrev slices_ContainsFunc_api_Edge_api_Edge.c : Code := Tryz.f139.body.getD .skip
noncomputable def slices_ContainsFunc_api_Edge_api_Edge.J (call : Cl) (n : Nat) : Jn (AEnd × H) := realJ Tryz.prog slices_ContainsFunc_api_Edge_api_Edge.A call Tryz.f139 slices_ContainsFunc_api_Edge_api_Edge.an slices_ContainsFunc_api_Edge_api_Edge.c n
abbrev slices_ContainsFunc_api_Edge_api_Edge.F (call : Cl) (n : Nat) (J : Jn (AEnd × H)) : Prop := JFix Tryz.prog slices_ContainsFunc_api_Edge_api_Edge.A call Tryz.f139 slices_ContainsFunc_api_Edge_api_Edge.an slices_ContainsFunc_api_Edge_api_Edge.c n J
def slices_ContainsFunc_api_Edge_api_Edge.f (J : Jn (AEnd × H)) (x0 x1 : AV) (h : H) : Option (AEnd × H) := J [] [] ⟨[(0, x0), (1, x1)], [], [], h⟩
theorem slices_ContainsFunc_api_Edge_api_Edge.f_eq {call : Cl} {n : Nat} {J : Jn (AEnd × H)} (hJ : slices_ContainsFunc_api_Edge_api_Edge.F call n J) (x0 x1 : AV) (h : H) : slices_ContainsFunc_api_Edge_api_Edge.f J x0 x1 h =
  (call n_slices_IndexFunc_api_Edge_api_Edge [AV.canon x0, AV.canon x1] h).bind fun p1 => retOr p1.1 (fun r2p => some (AEnd.pan r2p, p1.2)) fun r2 =>
  (bin .geq r2 (.int .i64 0)).bind fun v3 =>
  some (AEnd.ret (AV.copy v3), p1.2) := (hJ _ _ _ (by kernel_rfl)).trans (by kernel_rfl)
noncomputable def result_note.A : FAnn := { nv := 4, mv := [(2, 4), (2, 5)], ld := [], lst := [], obj := [], q := [], raw := [] }
noncomputable def result_note.an : Ann := .nil
noncomputable abbrev result_note.c : Code := Tryz.f140.body.getD .skip
noncomputable def result_note.J (call : Cl) (n : Nat) : Jn (AEnd × H) := realJ Tryz.prog result_note.A call Tryz.f140 result_note.an result_note.c n
abbrev result_note.F (call : Cl) (n : Nat) (J : Jn (AEnd × H)) : Prop := JFix Tryz.prog result_note.A call Tryz.f140 result_note.an result_note.c n J
def result_note.f (J : Jn (AEnd × H)) (x0 : AV) (h : H) : Option (AEnd × H) := J [] [] ⟨[(0, x0)], [], [], h⟩
theorem result_note.f_eq {call : Cl} {n : Nat} {J : Jn (AEnd × H)} (hJ : result_note.F call n J) (x0 : AV) (h : H) : result_note.f J x0 h =
  (lnStr x0).bind fun v1 =>
  (bin .leq v1 (.int .i64 64)).bind fun v2 =>
  condV v2 (
    (call n_strings_ContainsFunc [AV.canon x0, AV.canon (.func (.func n_result_note_c1) [] [])] h).bind fun p3 => retOr p3.1 (fun r4p => some (AEnd.pan r4p, p3.2)) fun r4 =>
    (unOp .not r4).bind fun v5 =>
    some (AEnd.ret (AV.copy v5), p3.2)) (
    some (AEnd.ret (AV.copy (.bool false)), h)) := (hJ _ _ _ (by kernel_rfl)).trans (by kernel_rfl)
noncomputable def ref11_more.A : FAnn := { nv := 2, mv := [(1, 11)], ld := [], lst := [], obj := [], q := [], raw := [] }
noncomputable def ref11_more.an : Ann := .nil
noncomputable abbrev ref11_more.c : Code := Tryz.f141.body.getD .skip
noncomputable def ref11_more.J (call : Cl) (n : Nat) : Jn (AEnd × H) := realJ Tryz.prog ref11_more.A call Tryz.f141 ref11_more.an ref11_more.c n
abbrev ref11_more.F (call : Cl) (n : Nat) (J : Jn (AEnd × H)) : Prop := JFix Tryz.prog ref11_more.A call Tryz.f141 ref11_more.an ref11_more.c n J
def ref11_more.f (J : Jn (AEnd × H)) (x0 : AV) (h : H) : Option (AEnd × H) := J [] [] ⟨[(0, x0)], [], [], h⟩
theorem ref11_more.f_eq {call : Cl} {n : Nat} {J : Jn (AEnd × H)} (hJ : ref11_more.F call n J) (x0 : AV) (h : H) : ref11_more.f J x0 h =
  (call n_warrantorref11_letter [AV.canon x0] h).bind fun p1 => retOr p1.1 (fun r2p => some (AEnd.pan r2p, p1.2)) fun r2 =>
  condV r2 (
    some (AEnd.ret (AV.copy (.bool true)), p1.2)) (
    (bin .geq x0 (.int .u8 48)).bind fun v3 =>
    condV v3 (
      (bin .leq x0 (.int .u8 57)).bind fun v4 =>
      condV v4 (
        some (AEnd.ret (AV.copy (.bool true)), p1.2)) (
        (bin .eql x0 (.int .u8 46)).bind fun v5 =>
        some (AEnd.ret (AV.copy v5), p1.2))) (
      (bin .eql x0 (.int .u8 46)).bind fun v6 =>
      some (AEnd.ret (AV.copy v6), p1.2))) := (hJ _ _ _ (by kernel_rfl)).trans (by kernel_rfl)
noncomputable def ref11_letter.A : FAnn := { nv := 2, mv := [(1, 15)], ld := [], lst := [], obj := [], q := [], raw := [] }
noncomputable def ref11_letter.an : Ann := .nil
noncomputable abbrev ref11_letter.c : Code := Tryz.f142.body.getD .skip
noncomputable def ref11_letter.J (call : Cl) (n : Nat) : Jn (AEnd × H) := realJ Tryz.prog ref11_letter.A call Tryz.f142 ref11_letter.an ref11_letter.c n
abbrev ref11_letter.F (call : Cl) (n : Nat) (J : Jn (AEnd × H)) : Prop := JFix Tryz.prog ref11_letter.A call Tryz.f142 ref11_letter.an ref11_letter.c n J
def ref11_letter.f (J : Jn (AEnd × H)) (x0 : AV) (h : H) : Option (AEnd × H) := J [] [] ⟨[(0, x0)], [], [], h⟩
theorem ref11_letter.f_eq {call : Cl} {n : Nat} {J : Jn (AEnd × H)} (hJ : ref11_letter.F call n J) (x0 : AV) (h : H) : ref11_letter.f J x0 h =
  (bin .geq x0 (.int .u8 97)).bind fun v1 =>
  condV v1 (
    (bin .leq x0 (.int .u8 122)).bind fun v2 =>
    condV v2 (
      some (AEnd.ret (AV.copy (.bool true)), h)) (
      (bin .geq x0 (.int .u8 65)).bind fun v3 =>
      condV v3 (
        (bin .leq x0 (.int .u8 90)).bind fun v4 =>
        condV v4 (
          some (AEnd.ret (AV.copy (.bool true)), h)) (
          (bin .eql x0 (.int .u8 95)).bind fun v5 =>
          some (AEnd.ret (AV.copy v5), h))) (
        (bin .eql x0 (.int .u8 95)).bind fun v6 =>
        some (AEnd.ret (AV.copy v6), h)))) (
    (bin .geq x0 (.int .u8 65)).bind fun v7 =>
    condV v7 (
      (bin .leq x0 (.int .u8 90)).bind fun v8 =>
      condV v8 (
        some (AEnd.ret (AV.copy (.bool true)), h)) (
        (bin .eql x0 (.int .u8 95)).bind fun v9 =>
        some (AEnd.ret (AV.copy v9), h))) (
      (bin .eql x0 (.int .u8 95)).bind fun v10 =>
      some (AEnd.ret (AV.copy v10), h))) := (hJ _ _ _ (by kernel_rfl)).trans (by kernel_rfl)
noncomputable def slices_IndexFunc_api_Change_api_Change.A : FAnn := { nv := 6, mv := [(5, 0)], ld := [], lst := [], obj := [], q := [], raw := [] }
noncomputable def slices_IndexFunc_api_Change_api_Change.an : Ann := .mk none .nil (.mk none (.mk none .nil (.mk none (.mk none (.mk (some [(0, 0), (1, 0), (7, 0), (8, 0)]) .nil .nil) .nil) .nil)) .nil)
noncomputable abbrev slices_IndexFunc_api_Change_api_Change.c : Code := Tryz.f143.body.getD .skip
noncomputable def slices_IndexFunc_api_Change_api_Change.J (call : Cl) (n : Nat) : Jn (AEnd × H) := realJ Tryz.prog slices_IndexFunc_api_Change_api_Change.A call Tryz.f143 slices_IndexFunc_api_Change_api_Change.an slices_IndexFunc_api_Change_api_Change.c n
abbrev slices_IndexFunc_api_Change_api_Change.F (call : Cl) (n : Nat) (J : Jn (AEnd × H)) : Prop := JFix Tryz.prog slices_IndexFunc_api_Change_api_Change.A call Tryz.f143 slices_IndexFunc_api_Change_api_Change.an slices_IndexFunc_api_Change_api_Change.c n J
def slices_IndexFunc_api_Change_api_Change.f (J : Jn (AEnd × H)) (x0 x1 : AV) (h : H) : Option (AEnd × H) := J [] [] ⟨[(0, x0), (1, x1)], [], [], h⟩
def slices_IndexFunc_api_Change_api_Change.l0 (J : Jn (AEnd × H)) (m0 : Nat) (x0 x1 x7 x8 : AV) (h : H) : Option (AEnd × H) := J [1, 0, 1, 0] [m0] ⟨[(0, x0), (1, x1), (7, x7), (8, x8)], [(0, 0), (1, 0), (7, 0), (8, 0)], [], h⟩
theorem slices_IndexFunc_api_Change_api_Change.f_eq {call : Cl} {n : Nat} {J : Jn (AEnd × H)} (hJ : slices_IndexFunc_api_Change_api_Change.F call n J) (x0 x1 : AV) (h : H) : slices_IndexFunc_api_Change_api_Change.f J x0 x1 h =
  (lnSl x0).bind fun v1 =>
  slices_IndexFunc_api_Change_api_Change.l0 J n x0 x1 v1 (.int .i64 0) h := (hJ _ _ _ (by kernel_rfl)).trans (by kernel_rfl)
theorem slices_IndexFunc_api_Change_api_Change.l0_eq {call : Cl} {n : Nat} {J : Jn (AEnd × H)} (hJ : slices_IndexFunc_api_Change_api_Change.F call n J) (m0 : Nat) (x0 x1 x7 x8 : AV) (h : H) : slices_IndexFunc_api_Change_api_Change.l0 J (m0 + 1) x0 x1 x7 x8 h =
  (bin .lss x8 x7).bind fun v2 =>
  condV v2 (
    (ixSlice 11 x0 x8).bind fun v3 =>
    (ldAgg 11 h v3).bind fun v4 =>
    (callVal call h x1 [AV.canon v4]).bind fun p5 => retOr p5.1 (fun r6p => some (AEnd.pan r6p, p5.2)) fun r6 =>
    condV r6 (
      some (AEnd.ret (AV.copy x8), p5.2)) (
      (bin .add x8 (.int .i64 1)).bind fun v7 =>
      slices_IndexFunc_api_Change_api_Change.l0 J m0 x0 x1 x7 v7 p5.2)) (
    some (AEnd.ret (.int .i64 (-1)), h)) := (hJ _ _ _ (by kernel_rfl)).trans (by kernel_rfl)
noncomputable def crc_bits.A : FAnn := { nv := 4, mv := [(1, 0), (3, 2), (5, 0)], ld := [], lst := [], obj := [], q := [], raw := [] }
noncomputable def crc_bits.an : Ann := .mk none .nil (.mk none (.mk none .nil (.mk none (.mk none (.mk (some [(0, 0), (5, 0), (6, 0)]) .nil .nil) .nil) .nil)) .nil)
noncomputable abbrev crc_bits.c : Code := Tryz.f144.body.getD .skip
noncomputable def crc_bits.J (call : Cl) (n : Nat) : Jn (AEnd × H) := realJ Tryz.prog crc_bits.A call Tryz.f144 crc_bits.an crc_bits.c n
abbrev crc_bits.F (call : Cl) (n : Nat) (J : Jn (AEnd × H)) : Prop := JFix Tryz.prog crc_bits.A call Tryz.f144 crc_bits.an crc_bits.c n J
def crc_bits.f (J : Jn (AEnd × H)) (x0 x1 : AV) (h : H) : Option (AEnd × H) := J [] [] ⟨[(0, x0), (1, x1)], [], [], h⟩
def crc_bits.l0 (J : Jn (AEnd × H)) (m0 : Nat) (x0 x5 x6 : AV) (h : H) : Option (AEnd × H) := J [1, 0, 1, 0] [m0] ⟨[(0, x0), (5, x5), (6, x6)], [(0, 0), (5, 0), (6, 0)], [], h⟩
theorem crc_bits.f_eq {call : Cl} {n : Nat} {J : Jn (AEnd × H)} (hJ : crc_bits.F call n J) (x0 x1 : AV) (h : H) : crc_bits.f J x0 x1 h =
  crc_bits.l0 J n x0 x1 (.int .i64 0) h := (hJ _ _ _ (by kernel_rfl)).trans (by kernel_rfl)
theorem crc_bits.l0_eq {call : Cl} {n : Nat} {J : Jn (AEnd × H)} (hJ : crc_bits.F call n J) (m0 : Nat) (x0 x5 x6 : AV) (h : H) : crc_bits.l0 J (m0 + 1) x0 x5 x6 h =
  (bin .lss x6 x5).bind fun v1 =>
  condV v1 (
    (bin .shr x0 (.int .u64 1)).bind fun v2 =>
    (bin .and x0 (.int .u32 1)).bind fun v3 =>
    (unOp .neg v3).bind fun v4 =>
    (bin .and (.int .u32 2197175160) v4).bind fun v5 =>
    (bin .xor v2 v5).bind fun v6 =>
    (bin .add x6 (.int .i64 1)).bind fun v7 =>
    crc_bits.l0 J m0 v6 x5 v7 h) (
    some (AEnd.ret (AV.copy x0), h)) := (hJ _ _ _ (by kernel_rfl)).trans (by kernel_rfl)
noncomputable def cur_Reader_number.A : FAnn := { nv := 6, mv := [(3, 0), (4, 0), (4, 4), (5, 0)], ld := [], lst := [], obj := [], q := [163], raw := [] }
noncomputable def cur_Reader_number.an : Ann := .mk none .nil (.mk none .nil (.mk none .nil (.mk (some [(0, 0), (3, 0), (4, 0)]) .nil .nil)))
noncomputable abbrev cur_Reader_number.c : Code := Tryz.f146.body.getD .skip
noncomputable def cur_Reader_number.J (call : Cl) (n : Nat) : Jn (AEnd × H) := realJ Tryz.prog cur_Reader_number.A call Tryz.f146 cur_Reader_number.an cur_Reader_number.c n
abbrev cur_Reader_number.F (call : Cl) (n : Nat) (J : Jn (AEnd × H)) : Prop := JFix Tryz.prog cur_Reader_number.A call Tryz.f146 cur_Reader_number.an cur_Reader_number.c n J
def cur_Reader_number.f (J : Jn (AEnd × H)) (x0 : AV) (h : H) : Option (AEnd × H) := J [] [] ⟨[(0, x0)], [], [], h⟩
def cur_Reader_number.j0 (J : Jn (AEnd × H)) (x0 x3 x4 : AV) (h : H) : Option (AEnd × H) := J [1, 1, 1] [] ⟨[(0, x0), (3, x3), (4, x4)], [(0, 0), (3, 0), (4, 0)], [], h⟩
theorem cur_Reader_number.f_eq {call : Cl} {n : Nat} {J : Jn (AEnd × H)} (hJ : cur_Reader_number.F call n J) (x0 : AV) (h : H) : cur_Reader_number.f J x0 h =
  (nilOk x0).bind fun v1 =>
  (fAddr 0 v1).bind fun v2 =>
  (ldCell h v2).bind fun v3 =>
  (nilOk x0).bind fun v4 =>
  (fAddr 1 v4).bind fun v5 =>
  (ldCell h v5).bind fun v6 =>
  (slSlice 1 v3 (some v6) none none).bind fun v7 =>
  (call n_leb_Get [AV.canon v7] h).bind fun p8 => retOr p8.1 (fun _ => none) fun r9 =>
  (exTuple 0 r9).bind fun v10 =>
  (exTuple 1 r9).bind fun v11 =>
  (exTuple 2 r9).bind fun v12 =>
  (bin .neq v12 (.int .i64 0)).bind fun v13 =>
  condV v13 (
    (mkAgg [.int .i64 0] [(0, 1, AV.copy v12)]).bind fun v14 =>
    panOr (.iface t_cur_broken (AV.copy v14)) fun w => some (AEnd.pan w, p8.2)) (
    cur_Reader_number.j0 J  x0 v10 v11 p8.2) := (hJ _ _ _ (by kernel_rfl)).trans (by kernel_rfl)
theorem cur_Reader_number.j0_eq {call : Cl} {n : Nat} {J : Jn (AEnd × H)} (hJ : cur_Reader_number.F call n J) (x0 x3 x4 : AV) (h : H) : cur_Reader_number.j0 J  x0 x3 x4 h =
  (nilOk x0).bind fun v15 =>
  (fAddr 1 v15).bind fun v16 =>
  (ldCell h v16).bind fun v17 =>
  (bin .add v17 x4).bind fun v18 =>
  (nilOk x0).bind fun v19 =>
  (fAddr 1 v19).bind fun v20 =>
  (stN 1 h v20 (AV.copy v18)).bind fun p21 =>
  some (AEnd.ret (AV.copy x3), p21.2) := (hJ _ _ _ (by kernel_rfl)).trans (by kernel_rfl)
noncomputable def cur_Reader_Count.A : FAnn := { nv := 4, mv := [(1, 0)], ld := [], lst := [], obj := [], q := [], raw := [] }
noncomputable def cur_Reader_Count.an : Ann := .nil
noncomputable abbrev cur_Reader_Count.c : Code := Tryz.f148.body.getD .skip
noncomputable def cur_Reader_Count.J (call : Cl) (n : Nat) : Jn (AEnd × H) := realJ Tryz.prog cur_Reader_Count.A call Tryz.f148 cur_Reader_Count.an cur_Reader_Count.c n
abbrev cur_Reader_Count.F (call : Cl) (n : Nat) (J : Jn (AEnd × H)) : Prop := JFix Tryz.prog cur_Reader_Count.A call Tryz.f148 cur_Reader_Count.an cur_Reader_Count.c n J
def cur_Reader_Count.f (J : Jn (AEnd × H)) (x0 x1 : AV) (h : H) : Option (AEnd × H) := J [] [] ⟨[(0, x0), (1, x1)], [], [], h⟩
theorem cur_Reader_Count.f_eq {call : Cl} {n : Nat} {J : Jn (AEnd × H)} (hJ : cur_Reader_Count.F call n J) (x0 x1 : AV) (h : H) : cur_Reader_Count.f J x0 x1 h =
  (bx h (AV.copy x1)).bind fun p1 =>
  (call n_cur_ask_int [AV.canon x0, AV.canon (.func (.func n_cur_Reader_Count_c1) [] [AV.copy p1.1])] p1.2).bind fun p2 => retOr p2.1 (fun r3p => some (AEnd.pan r3p, p2.2)) fun r3 =>
  some (AEnd.ret r3, p2.2) := (hJ _ _ _ (by kernel_rfl)).trans (by kernel_rfl)
noncomputable def rec_must.A : FAnn := { nv := 2, mv := [(0, 0)], ld := [], lst := [], obj := [], q := [], raw := [] }
noncomputable def rec_must.an : Ann := .nil
noncomputable abbrev rec_must.c : Code := Tryz.f149.body.getD .skip
noncomputable def rec_must.J (call : Cl) (n : Nat) : Jn (AEnd × H) := realJ Tryz.prog rec_must.A call Tryz.f149 rec_must.an rec_must.c n
abbrev rec_must.F (call : Cl) (n : Nat) (J : Jn (AEnd × H)) : Prop := JFix Tryz.prog rec_must.A call Tryz.f149 rec_must.an rec_must.c n J
def rec_must.f (J : Jn (AEnd × H)) (x0 : AV) (h : H) : Option (AEnd × H) := J [] [] ⟨[(0, x0)], [], [], h⟩
theorem rec_must.f_eq {call : Cl} {n : Nat} {J : Jn (AEnd × H)} (hJ : rec_must.F call n J) (x0 : AV) (h : H) : rec_must.f J x0 h =
  (unOp .not x0).bind fun v1 =>
  condV v1 (
    (mkAgg [] []).bind fun v2 =>
    panOr (.iface t_rec_broken (AV.copy v2)) fun w => some (AEnd.pan w, h)) (
    some (AEnd.ret (.tuple []), h)) := (hJ _ _ _ (by kernel_rfl)).trans (by kernel_rfl)
noncomputable def cur_Reader_End.A : FAnn := { nv := 2, mv := [(1, 0)], ld := [], lst := [], obj := [], q := [], raw := [] }
noncomputable def cur_Reader_End.an : Ann := .nil
noncomputable abbrev cur_Reader_End.c : Code := Tryz.f150.body.getD .skip
noncomputable def cur_Reader_End.J (call : Cl) (n : Nat) : Jn (AEnd × H) := realJ Tryz.prog cur_Reader_End.A call Tryz.f150 cur_Reader_End.an cur_Reader_End.c n
abbrev cur_Reader_End.F (call : Cl) (n : Nat) (J : Jn (AEnd × H)) : Prop := JFix Tryz.prog cur_Reader_End.A call Tryz.f150 cur_Reader_End.an cur_Reader_End.c n J
def cur_Reader_End.f (J : Jn (AEnd × H)) (x0 : AV) (h : H) : Option (AEnd × H) := J [] [] ⟨[(0, x0)], [], [], h⟩
theorem cur_Reader_End.f_eq {call : Cl} {n : Nat} {J : Jn (AEnd × H)} (hJ : cur_Reader_End.F call n J) (x0 : AV) (h : H) : cur_Reader_End.f J x0 h =
  (call n_cur_Reader_Left [AV.canon x0] h).bind fun p1 => retOr p1.1 (fun r2p => some (AEnd.pan r2p, p1.2)) fun r2 =>
  (bin .gtr r2 (.int .i64 0)).bind fun v3 =>
  condV v3 (
    (call n_cur_Reader_Fail [AV.canon x0, AV.canon (.int .i64 3)] p1.2).bind fun p4 => retOr p4.1 (fun r5p => some (AEnd.pan r5p, p4.2)) fun r5 =>
    some (AEnd.ret (.tuple []), p4.2)) (
    some (AEnd.ret (.tuple []), p1.2)) := (hJ _ _ _ (by kernel_rfl)).trans (by kernel_rfl)
noncomputable def slices_Equal_byte_byte.A : FAnn := { nv := 6, mv := [(6, 5)], ld := [], lst := [], obj := [], q := [], raw := [] }
noncomputable def slices_Equal_byte_byte.an : Ann := .mk none .nil (.mk none .nil (.mk none (.mk none .nil (.mk none (.mk none (.mk (some [(0, 0), (1, 0), (12, 0), (13, 0)]) .nil .nil) .nil) .nil)) .nil))
noncomputable abbrev slices_Equal_byte_byte.c : Code := Tryz.f151.body.getD .skip
noncomputable def slices_Equal_byte_byte.J (call : Cl) (n : Nat) : Jn (AEnd × H) := realJ Tryz.prog slices_Equal_byte_byte.A call Tryz.f151 slices_Equal_byte_byte.an slices_Equal_byte_byte.c n
abbrev slices_Equal_byte_byte.F (call : Cl) (n : Nat) (J : Jn (AEnd × H)) : Prop := JFix Tryz.prog slices_Equal_byte_byte.A call Tryz.f151 slices_Equal_byte_byte.an slices_Equal_byte_byte.c n J
def slices_Equal_byte_byte.f (J : Jn (AEnd × H)) (x0 x1 : AV) (h : H) : Option (AEnd × H) := J [] [] ⟨[(0, x0), (1, x1)], [], [], h⟩
def slices_Equal_byte_byte.l0 (J : Jn (AEnd × H)) (m0 : Nat) (x0 x1 x12 x13 : AV) (h : H) : Option (AEnd × H) := J [1, 1, 0, 1, 0] [m0] ⟨[(0, x0), (1, x1), (12, x12), (13, x13)], [(0, 0), (1, 0), (12, 0), (13, 0)], [], h⟩
theorem slices_Equal_byte_byte.f_eq {call : Cl} {n : Nat} {J : Jn (AEnd × H)} (hJ : slices_Equal_byte_byte.F call n J) (x0 x1 : AV) (h : H) : slices_Equal_byte_byte.f J x0 x1 h =
  (lnSl x0).bind fun v1 =>
  (lnSl x1).bind fun v2 =>
  (bin .neq v1 v2).bind fun v3 =>
  condV v3 (
    some (AEnd.ret (.bool false), h)) (
    (lnSl x0).bind fun v4 =>
    slices_Equal_byte_byte.l0 J n x0 x1 v4 (.int .i64 0) h) := (hJ _ _ _ (by kernel_rfl)).trans (by kernel_rfl)
theorem slices_Equal_byte_byte.l0_eq {call : Cl} {n : Nat} {J : Jn (AEnd × H)} (hJ : slices_Equal_byte_byte.F call n J) (m0 : Nat) (x0 x1 x12 x13 : AV) (h : H) : slices_Equal_byte_byte.l0 J (m0 + 1) x0 x1 x12 x13 h =
  (bin .lss x13 x12).bind fun v5 =>
  condV v5 (
    (ixSlice 1 x0 x13).bind fun v6 =>
    (ldCell h v6).bind fun v7 =>
    (ixSlice 1 x1 x13).bind fun v8 =>
    (ldCell h v8).bind fun v9 =>
    (bin .neq v7 v9).bind fun v10 =>
    condV v10 (
      some (AEnd.ret (.bool false), h)) (
      (bin .add x13 (.int .i64 1)).bind fun v11 =>
      slices_Equal_byte_byte.l0 J m0 x0 x1 x12 v11 h)) (
    some (AEnd.ret (.bool true), h)) := (hJ _ _ _ (by kernel_rfl)).trans (by kernel_rfl)
noncomputable def ref02_Reader_take.A : FAnn := { nv := 4, mv := [(4, 0), (7, 8), (7, 10)], ld := [], lst := [], obj := [], q := [], raw := [] }
noncomputable def ref02_Reader_take.an : Ann := .nil
noncomputable abbrev ref02_Reader_take.c : Code := Tryz.f152.body.getD .skip
noncomputable def ref02_Reader_take.J (call : Cl) (n : Nat) : Jn (AEnd × H) := realJ Tryz.prog ref02_Reader_take.A call Tryz.f152 ref02_Reader_take.an ref02_Reader_take.c n
abbrev ref02_Reader_take.F (call : Cl) (n : Nat) (J : Jn (AEnd × H)) : Prop := JFix Tryz.prog ref02_Reader_take.A call Tryz.f152 ref02_Reader_take.an ref02_Reader_take.c n J
def ref02_Reader_take.f (J : Jn (AEnd × H)) (x0 x1 : AV) (h : H) : Option (AEnd × H) := J [] [] ⟨[(0, x0), (1, x1)], [], [], h⟩
theorem ref02_Reader_take.f_eq {call : Cl} {n : Nat} {J : Jn (AEnd × H)} (hJ : ref02_Reader_take.F call n J) (x0 x1 : AV) (h : H) : ref02_Reader_take.f J x0 x1 h =
  (nilOk x0).bind fun v1 =>
  (fAddr 2 v1).bind fun v2 =>
  (ldCell h v2).bind fun v3 =>
  (bin .neq v3 (.int .i64 0)).bind fun v4 =>
  condV v4 (
    some (AEnd.ret (.list [] .cap), h)) (
    (nilOk x0).bind fun v5 =>
    (fAddr 0 v5).bind fun v6 =>
    (ldCell h v6).bind fun v7 =>
    (lnSl v7).bind fun v8 =>
    (nilOk x0).bind fun v9 =>
    (fAddr 1 v9).bind fun v10 =>
    (ldCell h v10).bind fun v11 =>
    (bin .sub v8 v11).bind fun v12 =>
    (bin .gtr x1 v12).bind fun v13 =>
    condV v13 (
      (call n_warrantorref02_Reader_Fail [AV.canon x0, AV.canon (.int .i64 10)] h).bind fun p14 => retOr p14.1 (fun r15p => some (AEnd.pan r15p, p14.2)) fun r15 =>
      some (AEnd.ret (.list [] .cap), p14.2)) (
      (nilOk x0).bind fun v16 =>
      (fAddr 1 v16).bind fun v17 =>
      (ldCell h v17).bind fun v18 =>
      (bin .add v18 x1).bind fun v19 =>
      (nilOk x0).bind fun v20 =>
      (fAddr 1 v20).bind fun v21 =>
      (stN 1 h v21 (AV.copy v19)).bind fun p22 =>
      (nilOk x0).bind fun v23 =>
      (fAddr 0 v23).bind fun v24 =>
      (ldCell p22.2 v24).bind fun v25 =>
      (nilOk x0).bind fun v26 =>
      (fAddr 1 v26).bind fun v27 =>
      (ldCell p22.2 v27).bind fun v28 =>
      (bin .sub v28 x1).bind fun v29 =>
      (nilOk x0).bind fun v30 =>
      (fAddr 1 v30).bind fun v31 =>
      (ldCell p22.2 v31).bind fun v32 =>
      (slSlice 1 v25 (some v29) (some v32) none).bind fun v33 =>
      some (AEnd.ret (AV.copy v33), p22.2))) := (hJ _ _ _ (by kernel_rfl)).trans (by kernel_rfl)
noncomputable def ref03_take.A : FAnn := { nv := 7, mv := [(1, 0), (4, 0), (5, 0), (6, 0), (7, 0)], ld := [], lst := [], obj := [], q := [], raw := [] }
noncomputable def ref03_take.an : Ann := .mk none .nil (.mk none .nil (.mk none (.mk none .nil (.mk none (.mk none (.mk (some [(0, 0), (5, 0), (6, 0)]) .nil .nil) .nil) .nil)) .nil))
noncomputable abbrev ref03_take.c : Code := Tryz.f153.body.getD .skip
noncomputable def ref03_take.J (call : Cl) (n : Nat) : Jn (AEnd × H) := realJ Tryz.prog ref03_take.A call Tryz.f153 ref03_take.an ref03_take.c n
abbrev ref03_take.F (call : Cl) (n : Nat) (J : Jn (AEnd × H)) : Prop := JFix Tryz.prog ref03_take.A call Tryz.f153 ref03_take.an ref03_take.c n J
def ref03_take.f (J : Jn (AEnd × H)) (x0 x1 : AV) (h : H) : Option (AEnd × H) := J [] [] ⟨[(0, x0), (1, x1)], [], [], h⟩
def ref03_take.l0 (J : Jn (AEnd × H)) (m0 : Nat) (x0 x5 x6 : AV) (h : H) : Option (AEnd × H) := J [1, 1, 0, 1, 0] [m0] ⟨[(0, x0), (5, x5), (6, x6)], [(0, 0), (5, 0), (6, 0)], [], h⟩
theorem ref03_take.f_eq {call : Cl} {n : Nat} {J : Jn (AEnd × H)} (hJ : ref03_take.F call n J) (x0 x1 : AV) (h : H) : ref03_take.f J x0 x1 h =
  (cvInt .u32 x1).bind fun v1 =>
  ref03_take.l0 J n x0 v1 (.int .i64 0) h := (hJ _ _ _ (by kernel_rfl)).trans (by kernel_rfl)
theorem ref03_take.l0_eq {call : Cl} {n : Nat} {J : Jn (AEnd × H)} (hJ : ref03_take.F call n J) (m0 : Nat) (x0 x5 x6 : AV) (h : H) : ref03_take.l0 J (m0 + 1) x0 x5 x6 h =
  (bin .lss x6 (.int .i64 8)).bind fun v2 =>
  condV v2 (
    (call n_warrantorref03_bit [AV.canon x0, AV.canon x5] h).bind fun p3 => retOr p3.1 (fun r4p => some (AEnd.pan r4p, p3.2)) fun r4 =>
    (bin .quo x5 (.int .u32 2)).bind fun v5 =>
    (bin .add x6 (.int .i64 1)).bind fun v6 =>
    ref03_take.l0 J m0 r4 v5 v6 p3.2) (
    some (AEnd.ret (AV.copy x0), h)) := (hJ _ _ _ (by kernel_rfl)).trans (by kernel_rfl)
noncomputable def ref01_Get.A : FAnn := { nv := 9, mv := [(5, 0), (9, 0), (10, 0), (11, 0), (11, 1), (12, 0)], ld := [], lst := [], obj := [], q := [], raw := [] }
noncomputable def ref01_Get.an : Ann := .mk none .nil (.mk none .nil (.mk none .nil (.mk none (.mk none .nil (.mk none (.mk none (.mk (some [(0, 0), (5, 0), (6, 0), (7, 0)]) .nil (.mk none (.mk none (.mk none .nil (.mk none (.mk none .nil (.mk (some [(0, 0), (5, 0), (6, 0), (7, 0), (8, 255), (33, 0)]) .nil .nil)) (.mk (some [(0, 0), (5, 0), (6, 0), (7, 0), (8, 255)]) .nil .nil))) .nil) .nil)) .nil) .nil)) .nil)))
noncomputable abbrev ref01_Get.c : Code := Tryz.f154.body.getD .skip
noncomputable def ref01_Get.J (call : Cl) (n : Nat) : Jn (AEnd × H) := realJ Tryz.prog ref01_Get.A call Tryz.f154 ref01_Get.an ref01_Get.c n
abbrev ref01_Get.F (call : Cl) (n : Nat) (J : Jn (AEnd × H)) : Prop := JFix Tryz.prog ref01_Get.A call Tryz.f154 ref01_Get.an ref01_Get.c n J
def ref01_Get.f (J : Jn (AEnd × H)) (x0 : AV) (h : H) : Option (AEnd × H) := J [] [] ⟨[(0, x0)], [], [], h⟩
def ref01_Get.l0 (J : Jn (AEnd × H)) (m0 : Nat) (x0 x5 x6 x7 : AV) (h : H) : Option (AEnd × H) := J [1, 1, 1, 0, 1, 0] [m0] ⟨[(0, x0), (5, x5), (6, x6), (7, x7)], [(0, 0), (5, 0), (6, 0), (7, 0)], [], h⟩
def ref01_Get.j1 (J : Jn (AEnd × H)) (m0 : Nat) (x0 x5 x6 x7 x8 x33 : AV) (h : H) : Option (AEnd × H) := J [1, 1, 1, 0, 1, 0, 0, 1, 0, 0, 1, 0, 1] [m0] ⟨[(0, x0), (5, x5), (6, x6), (7, x7), (8, x8), (33, x33)], [(0, 0), (5, 0), (6, 0), (7, 0), (8, 255), (33, 0)], [], h⟩
def ref01_Get.j0 (J : Jn (AEnd × H)) (m0 : Nat) (x0 x5 x6 x7 x8 : AV) (h : H) : Option (AEnd × H) := J [1, 1, 1, 0, 1, 0, 0, 1, 0, 0, 1, 1] [m0] ⟨[(0, x0), (5, x5), (6, x6), (7, x7), (8, x8)], [(0, 0), (5, 0), (6, 0), (7, 0), (8, 255)], [], h⟩
theorem ref01_Get.f_eq {call : Cl} {n : Nat} {J : Jn (AEnd × H)} (hJ : ref01_Get.F call n J) (x0 : AV) (h : H) : ref01_Get.f J x0 h =
  ref01_Get.l0 J n x0 (.int .u64 0) (.int .u64 1) (.int .i64 0) h := (hJ _ _ _ (by kernel_rfl)).trans (by kernel_rfl)
theorem ref01_Get.l0_eq {call : Cl} {n : Nat} {J : Jn (AEnd × H)} (hJ : ref01_Get.F call n J) (m0 : Nat) (x0 x5 x6 x7 : AV) (h : H) : ref01_Get.l0 J (m0 + 1) x0 x5 x6 x7 h =
  (lnSl x0).bind fun v1 =>
  (bin .lss x7 v1).bind fun v2 =>
  condV v2 (
    (ixSlice 1 x0 x7).bind fun v3 =>
    (ldCell h v3).bind fun v4 =>
    (cvInt .u64 v4).bind fun v5 =>
    (bin .eql x7 (.int .i64 9)).bind fun v6 =>
    condV v6 (
      (bin .gtr v5 (.int .u64 1)).bind fun v7 =>
      condV v7 (
        ref01_Get.j1 J m0 x0 x5 x6 x7 v5 (.bool true) h) (
        (bin .eql v5 (.int .u64 0)).bind fun v8 =>
        condV v8 (
          (bin .gtr x7 (.int .i64 0)).bind fun v9 =>
          ref01_Get.j1 J m0 x0 x5 x6 x7 v5 v9 h) (
          ref01_Get.j1 J m0 x0 x5 x6 x7 v5 (.bool false) h))) (
      (bin .eql v5 (.int .u64 0)).bind fun v10 =>
      condV v10 (
        (bin .gtr x7 (.int .i64 0)).bind fun v11 =>
        ref01_Get.j1 J m0 x0 x5 x6 x7 v5 v11 h) (
        ref01_Get.j1 J m0 x0 x5 x6 x7 v5 (.bool false) h))) (
    some (AEnd.ret (.tuple [(.int .u64 0), (.int .i64 0), (.int .i64 10)]), h)) := (hJ _ _ _ (by kernel_rfl)).trans (by kernel_rfl)
theorem ref01_Get.j1_eq {call : Cl} {n : Nat} {J : Jn (AEnd × H)} (hJ : ref01_Get.F call n J) (m0 : Nat) (x0 x5 x6 x7 x8 x33 : AV) (h : H) : ref01_Get.j1 J m0 x0 x5 x6 x7 x8 x33 h =
  condV x33 (
    some (AEnd.ret (.tuple [(.int .u64 0), (.int .i64 0), (.int .i64 11)]), h)) (
    ref01_Get.j0 J m0 x0 x5 x6 x7 x8 h) := (hJ _ _ _ (by kernel_rfl)).trans (by kernel_rfl)
theorem ref01_Get.j0_eq {call : Cl} {n : Nat} {J : Jn (AEnd × H)} (hJ : ref01_Get.F call n J) (m0 : Nat) (x0 x5 x6 x7 x8 : AV) (h : H) : ref01_Get.j0 J m0 x0 x5 x6 x7 x8 h =
  (bin .rem x8 (.int .u64 128)).bind fun v12 =>
  (bin .mul x6 v12).bind fun v13 =>
  (bin .add x5 v13).bind fun v14 =>
  (bin .lss x8 (.int .u64 128)).bind fun v15 =>
  condV v15 (
    (bin .add x7 (.int .i64 1)).bind fun v16 =>
    some (AEnd.ret (.tuple [(AV.copy v14), (AV.copy v16), (.int .i64 0)]), h)) (
    (bin .mul x6 (.int .u64 128)).bind fun v17 =>
    (bin .add x7 (.int .i64 1)).bind fun v18 =>
    ref01_Get.l0 J m0 x0 v14 v17 v18 h) := (hJ _ _ _ (by kernel_rfl)).trans (by kernel_rfl)
noncomputable def strings_IndexFunc.A : FAnn := { nv := 4, mv := [(1, 0), (1, 1)], ld := [], lst := [], obj := [], q := [], raw := [] }
noncomputable def strings_IndexFunc.an : Ann := .nil
noncomputable abbrev strings_IndexFunc.c : Code := Tryz.f155.body.getD .skip
noncomputable def strings_IndexFunc.J (call : Cl) (n : Nat) : Jn (AEnd × H) := realJ Tryz.prog strings_IndexFunc.A call Tryz.f155 strings_IndexFunc.an strings_IndexFunc.c n
abbrev strings_IndexFunc.F (call : Cl) (n : Nat) (J : Jn (AEnd × H)) : Prop := JFix Tryz.prog strings_IndexFunc.A call Tryz.f155 strings_IndexFunc.an strings_IndexFunc.c n J
def strings_IndexFunc.f (J : Jn (AEnd × H)) (x0 x1 : AV) (h : H) : Option (AEnd × H) := J [] [] ⟨[(0, x0), (1, x1)], [], [], h⟩
theorem strings_IndexFunc.f_eq {call : Cl} {n : Nat} {J : Jn (AEnd × H)} (hJ : strings_IndexFunc.F call n J) (x0 x1 : AV) (h : H) : strings_IndexFunc.f J x0 x1 h =
  (call n_strings_indexFunc [AV.canon x0, AV.canon x1, AV.canon (.bool true)] h).bind fun p1 => retOr p1.1 (fun r2p => some (AEnd.pan r2p, p1.2)) fun r2 =>
  some (AEnd.ret r2, p1.2) := (hJ _ _ _ (by kernel_rfl)).trans (by kernel_rfl)
noncomputable def prog_kinds.A : FAnn := { nv := 2, mv := [(2, 1)], ld := [], lst := [], obj := [], q := [], raw := [] }
noncomputable def prog_kinds.an : Ann := .nil
noncomputable abbrev prog_kinds.c : Code := Tryz.f156.body.getD .skip
noncomputable def prog_kinds.J (call : Cl) (n : Nat) : Jn (AEnd × H) := realJ Tryz.prog prog_kinds.A call Tryz.f156 prog_kinds.an prog_kinds.c n
abbrev prog_kinds.F (call : Cl) (n : Nat) (J : Jn (AEnd × H)) : Prop := JFix Tryz.prog prog_kinds.A call Tryz.f156 prog_kinds.an prog_kinds.c n J
def prog_kinds.f (J : Jn (AEnd × H)) (h : H) : Option (AEnd × H) := J [] [] ⟨[], [], [], h⟩
theorem prog_kinds.f_eq {call : Cl} {n : Nat} {J : Jn (AEnd × H)} (hJ : prog_kinds.F call n J) (h : H) : prog_kinds.f J  h =
  let h1 : H := h ++ [.arr [.nilFunc, .nilFunc, .nilFunc, .nilFunc, .nilFunc, .nilFunc] false]
  (mkAgg [.nilFunc, .nilFunc, .nilFunc, .nilFunc, .nilFunc, .nilFunc] [(1, 1, AV.copy (.func (.func n_prog_kinds_c2) [] [])), (2, 1, AV.copy (.func (.func n_prog_kinds_c3) [] [])), (3, 1, AV.copy (.func (.func n_prog_kinds_c4) [] [])), (4, 1, AV.copy (.func (.func n_prog_kinds_c1) [] [])), (5, 1, AV.copy (.func (.func n_prog_kinds_c1) [] []))]).bind fun v2 =>
  (stN 6 h1 (.ptr h.length 0) v2).bind fun p3 =>
  (resN [(ldAgg 6 p3.2 (.ptr h.length 0)).map AV.copy]).map fun v => (AEnd.ret v, p3.2) := (hJ _ _ _ (by kernel_rfl)).trans (by kernel_rfl)
noncomputable def prog_named.A : FAnn := { nv := 9, mv := [(4, 0), (4, 9), (6, 3), (6, 5)], ld := [], lst := [], obj := [], q := [], raw := [] }
noncomputable def prog_named.an : Ann := .mk none .nil (.mk none (.mk none .nil (.mk none (.mk none (.mk (some [(0, 0), (1, 0), (2, 0), (10, 0)]) .nil (.mk none .nil (.mk none (.mk none .nil (.mk none .nil (.mk (some [(0, 0), (1, 0), (2, 0), (10, 0), (27, 0)]) .nil .nil))) .nil))) .nil) .nil)) .nil)
noncomputable abbrev prog_named.c : Code := Tryz.f157.body.getD .skip
noncomputable def prog_named.J (call : Cl) (n : Nat) : Jn (AEnd × H) := realJ Tryz.prog prog_named.A call Tryz.f157 prog_named.an prog_named.c n
abbrev prog_named.F (call : Cl) (n : Nat) (J : Jn (AEnd × H)) : Prop := JFix Tryz.prog prog_named.A call Tryz.f157 prog_named.an prog_named.c n J
def prog_named.f (J : Jn (AEnd × H)) (x0 x1 x2 : AV) (h : H) : Option (AEnd × H) := J [] [] ⟨[(0, x0), (1, x1), (2, x2)], [], [], h⟩
def prog_named.l0 (J : Jn (AEnd × H)) (m0 : Nat) (x0 x1 x2 x10 : AV) (h : H) : Option (AEnd × H) := J [1, 0, 1, 0] [m0] ⟨[(0, x0), (1, x1), (2, x2), (10, x10)], [(0, 0), (1, 0), (2, 0), (10, 0)], [], h⟩
def prog_named.j0 (J : Jn (AEnd × H)) (m0 : Nat) (x0 x1 x2 x10 x27 : AV) (h : H) : Option (AEnd × H) := J [1, 0, 1, 0, 0, 1, 1, 0, 1, 1] [m0] ⟨[(0, x0), (1, x1), (2, x2), (10, x10), (27, x27)], [(0, 0), (1, 0), (2, 0), (10, 0), (27, 0)], [], h⟩
theorem prog_named.f_eq {call : Cl} {n : Nat} {J : Jn (AEnd × H)} (hJ : prog_named.F call n J) (x0 x1 x2 : AV) (h : H) : prog_named.f J x0 x1 x2 h =
  (rgStr h x0).bind fun p1 =>
  prog_named.l0 J n x0 x1 x2 p1.1 p1.2 := (hJ _ _ _ (by kernel_rfl)).trans (by kernel_rfl)
theorem prog_named.l0_eq {call : Cl} {n : Nat} {J : Jn (AEnd × H)} (hJ : prog_named.F call n J) (m0 : Nat) (x0 x1 x2 x10 : AV) (h : H) : prog_named.l0 J (m0 + 1) x0 x1 x2 x10 h =
  (next h x10 true).bind fun p2 =>
  (exTuple 0 p2.1).bind fun v3 =>
  condV v3 (
    (exTuple 1 p2.1).bind fun v4 =>
    (exTuple 2 p2.1).bind fun v5 =>
    (bin .eql v4 (.int .i64 0)).bind fun v6 =>
    condV v6 (
      (call n_prog_letter [AV.canon v5] p2.2).bind fun p7 => retOr p7.1 (fun r8p => some (AEnd.pan r8p, p7.2)) fun r8 =>
      (unOp .not r8).bind fun v9 =>
      condV v9 (
        prog_named.j0 J m0 x0 x1 x2 x10 (.bool true) p7.2) (
        (callVal call p7.2 x2 [AV.canon v5]).bind fun p10 => retOr p10.1 (fun r11p => some (AEnd.pan r11p, p10.2)) fun r11 =>
        (unOp .not r11).bind fun v12 =>
        prog_named.j0 J m0 x0 x1 x2 x10 v12 p10.2)) (
      (callVal call p2.2 x2 [AV.canon v5]).bind fun p13 => retOr p13.1 (fun r14p => some (AEnd.pan r14p, p13.2)) fun r14 =>
      (unOp .not r14).bind fun v15 =>
      prog_named.j0 J m0 x0 x1 x2 x10 v15 p13.2)) (
    (bin .neq x0 (.str [])).bind fun v16 =>
    condV v16 (
      (lnStr x0).bind fun v17 =>
      (bin .leq v17 x1).bind fun v18 =>
      some (AEnd.ret (AV.copy v18), p2.2)) (
      some (AEnd.ret (AV.copy (.bool false)), p2.2))) := (hJ _ _ _ (by kernel_rfl)).trans (by kernel_rfl)
theorem prog_named.j0_eq {call : Cl} {n : Nat} {J : Jn (AEnd × H)} (hJ : prog_named.F call n J) (m0 : Nat) (x0 x1 x2 x10 x27 : AV) (h : H) : prog_named.j0 J m0 x0 x1 x2 x10 x27 h =
  condV x27 (
    some (AEnd.ret (.bool false), h)) (
    prog_named.l0 J m0 x0 x1 x2 x10 h) := (hJ _ _ _ (by kernel_rfl)).trans (by kernel_rfl)
noncomputable def prog_plain.A : FAnn := { nv := 2, mv := [(1, 11)], ld := [], lst := [], obj := [], q := [], raw := [] }
noncomputable def prog_plain.an : Ann := .nil
noncomputable abbrev prog_plain.c : Code := Tryz.f158.body.getD .skip
noncomputable def prog_plain.J (call : Cl) (n : Nat) : Jn (AEnd × H) := realJ Tryz.prog prog_plain.A call Tryz.f158 prog_plain.an prog_plain.c n
abbrev prog_plain.F (call : Cl) (n : Nat) (J : Jn (AEnd × H)) : Prop := JFix Tryz.prog prog_plain.A call Tryz.f158 prog_plain.an prog_plain.c n J
def prog_plain.f (J : Jn (AEnd × H)) (x0 : AV) (h : H) : Option (AEnd × H) := J [] [] ⟨[(0, x0)], [], [], h⟩
theorem prog_plain.f_eq {call : Cl} {n : Nat} {J : Jn (AEnd × H)} (hJ : prog_plain.F call n J) (x0 : AV) (h : H) : prog_plain.f J x0 h =
  (call n_prog_letter [AV.canon x0] h).bind fun p1 => retOr p1.1 (fun r2p => some (AEnd.pan r2p, p1.2)) fun r2 =>
  condV r2 (
    some (AEnd.ret (AV.copy (.bool true)), p1.2)) (
    (bin .geq x0 (.int .i32 48)).bind fun v3 =>
    condV v3 (
      (bin .leq x0 (.int .i32 57)).bind fun v4 =>
      condV v4 (
        some (AEnd.ret (AV.copy (.bool true)), p1.2)) (
        (bin .eql x0 (.int .i32 46)).bind fun v5 =>
        some (AEnd.ret (AV.copy v5), p1.2))) (
      (bin .eql x0 (.int .i32 46)).bind fun v6 =>
      some (AEnd.ret (AV.copy v6), p1.2))) := (hJ _ _ _ (by kernel_rfl)).trans (by kernel_rfl)
noncomputable def slices_IndexFunc_api_Spot_api_Spot.A : FAnn := { nv := 6, mv := [(5, 0)], ld := [], lst := [], obj := [], q := [], raw := [] }
noncomputable def slices_IndexFunc_api_Spot_api_Spot.an : Ann := .mk none .nil (.mk none (.mk none .nil (.mk none (.mk none (.mk (some [(0, 0), (1, 0), (7, 0), (8, 0)]) .nil .nil) .nil) .nil)) .nil)
noncomputable abbrev slices_IndexFunc_api_Spot_api_Spot.c : Code := Tryz.f159.body.getD .skip
noncomputable def slices_IndexFunc_api_Spot_api_Spot.J (call : Cl) (n : Nat) : Jn (AEnd × H) := realJ Tryz.prog slices_IndexFunc_api_Spot_api_Spot.A call Tryz.f159 slices_IndexFunc_api_Spot_api_Spot.an slices_IndexFunc_api_Spot_api_Spot.c n
abbrev slices_IndexFunc_api_Spot_api_Spot.F (call : Cl) (n : Nat) (J : Jn (AEnd × H)) : Prop := JFix Tryz.prog slices_IndexFunc_api_Spot_api_Spot.A call Tryz.f159 slices_IndexFunc_api_Spot_api_Spot.an slices_IndexFunc_api_Spot_api_Spot.c n J
def slices_IndexFunc_api_Spot_api_Spot.f (J : Jn (AEnd × H)) (x0 x1 : AV) (h : H) : Option (AEnd × H) := J [] [] ⟨[(0, x0), (1, x1)], [], [], h⟩
def slices_IndexFunc_api_Spot_api_Spot.l0 (J : Jn (AEnd × H)) (m0 : Nat) (x0 x1 x7 x8 : AV) (h : H) : Option (AEnd × H) := J [1, 0, 1, 0] [m0] ⟨[(0, x0), (1, x1), (7, x7), (8, x8)], [(0, 0), (1, 0), (7, 0), (8, 0)], [], h⟩
theorem slices_IndexFunc_api_Spot_api_Spot.f_eq {call : Cl} {n : Nat} {J : Jn (AEnd × H)} (hJ : slices_IndexFunc_api_Spot_api_Spot.F call n J) (x0 x1 : AV) (h : H) : slices_IndexFunc_api_Spot_api_Spot.f J x0 x1 h =
  (lnSl x0).bind fun v1 =>
  slices_IndexFunc_api_Spot_api_Spot.l0 J n x0 x1 v1 (.int .i64 0) h := (hJ _ _ _ (by kernel_rfl)).trans (by kernel_rfl)
theorem slices_IndexFunc_api_Spot_api_Spot.l0_eq {call : Cl} {n : Nat} {J : Jn (AEnd × H)} (hJ : slices_IndexFunc_api_Spot_api_Spot.F call n J) (m0 : Nat) (x0 x1 x7 x8 : AV) (h : H) : slices_IndexFunc_api_Spot_api_Spot.l0 J (m0 + 1) x0 x1 x7 x8 h =
  (bin .lss x8 x7).bind fun v2 =>
  condV v2 (
    (ixSlice 3 x0 x8).bind fun v3 =>
    (ldAgg 3 h v3).bind fun v4 =>
    (callVal call h x1 [AV.canon v4]).bind fun p5 => retOr p5.1 (fun r6p => some (AEnd.pan r6p, p5.2)) fun r6 =>
    condV r6 (
      some (AEnd.ret (AV.copy x8), p5.2)) (
      (bin .add x8 (.int .i64 1)).bind fun v7 =>
      slices_IndexFunc_api_Spot_api_Spot.l0 J m0 x0 x1 x7 v7 p5.2)) (
    some (AEnd.ret (.int .i64 (-1)), h)) := (hJ _ _ _ (by kernel_rfl)).trans (by kernel_rfl)
noncomputable def prog_path.A : FAnn := { nv := 2, mv := [(1, 7)], ld := [], lst := [], obj := [], q := [], raw := [] }
noncomputable def prog_path.an : Ann := .nil
noncomputable abbrev prog_path.c : Code := Tryz.f160.body.getD .skip
noncomputable def prog_path.J (call : Cl) (n : Nat) : Jn (AEnd × H) := realJ Tryz.prog prog_path.A call Tryz.f160 prog_path.an prog_path.c n
abbrev prog_path.F (call : Cl) (n : Nat) (J : Jn (AEnd × H)) : Prop := JFix Tryz.prog prog_path.A call Tryz.f160 prog_path.an prog_path.c n J
def prog_path.f (J : Jn (AEnd × H)) (x0 : AV) (h : H) : Option (AEnd × H) := J [] [] ⟨[(0, x0)], [], [], h⟩
theorem prog_path.f_eq {call : Cl} {n : Nat} {J : Jn (AEnd × H)} (hJ : prog_path.F call n J) (x0 : AV) (h : H) : prog_path.f J x0 h =
  (call n_prog_plain [AV.canon x0] h).bind fun p1 => retOr p1.1 (fun r2p => some (AEnd.pan r2p, p1.2)) fun r2 =>
  condV r2 (
    some (AEnd.ret (AV.copy (.bool true)), p1.2)) (
    (bin .eql x0 (.int .i32 45)).bind fun v3 =>
    condV v3 (
      some (AEnd.ret (AV.copy (.bool true)), p1.2)) (
      (bin .eql x0 (.int .i32 47)).bind fun v4 =>
      some (AEnd.ret (AV.copy v4), p1.2))) := (hJ _ _ _ (by kernel_rfl)).trans (by kernel_rfl)
noncomputable def slices_IndexFunc_api_Edge_api_Edge.A : FAnn := { nv := 6, mv := [(5, 0)], ld := [], lst := [], obj := [], q := [], raw := [] }
noncomputable def slices_IndexFunc_api_Edge_api_Edge.an : Ann := .mk none .nil (.mk none (.mk none .nil (.mk none (.mk none (.mk (some [(0, 0), (1, 0), (7, 0), (8, 0)]) .nil .nil) .nil) .nil)) .nil)
noncomputable abbrev slices_IndexFunc_api_Edge_api_Edge.c : Code := Tryz.f161.body.getD .skip
noncomputable def slices_IndexFunc_api_Edge_api_Edge.J (call : Cl) (n : Nat) : Jn (AEnd × H) := realJ Tryz.prog slices_IndexFunc_api_Edge_api_Edge.A call Tryz.f161 slices_IndexFunc_api_Edge_api_Edge.an slices_IndexFunc_api_Edge_api_Edge.c n
abbrev slices_IndexFunc_api_Edge_api_Edge.F (call : Cl) (n : Nat) (J : Jn (AEnd × H)) : Prop := JFix Tryz.prog slices_IndexFunc_api_Edge_api_Edge.A call Tryz.f161 slices_IndexFunc_api_Edge_api_Edge.an slices_IndexFunc_api_Edge_api_Edge.c n J
def slices_IndexFunc_api_Edge_api_Edge.f (J : Jn (AEnd × H)) (x0 x1 : AV) (h : H) : Option (AEnd × H) := J [] [] ⟨[(0, x0), (1, x1)], [], [], h⟩
def slices_IndexFunc_api_Edge_api_Edge.l0 (J : Jn (AEnd × H)) (m0 : Nat) (x0 x1 x7 x8 : AV) (h : H) : Option (AEnd × H) := J [1, 0, 1, 0] [m0] ⟨[(0, x0), (1, x1), (7, x7), (8, x8)], [(0, 0), (1, 0), (7, 0), (8, 0)], [], h⟩
theorem slices_IndexFunc_api_Edge_api_Edge.f_eq {call : Cl} {n : Nat} {J : Jn (AEnd × H)} (hJ : slices_IndexFunc_api_Edge_api_Edge.F call n J) (x0 x1 : AV) (h : H) : slices_IndexFunc_api_Edge_api_Edge.f J x0 x1 h =
  (lnSl x0).bind fun v1 =>
  slices_IndexFunc_api_Edge_api_Edge.l0 J n x0 x1 v1 (.int .i64 0) h := (hJ _ _ _ (by kernel_rfl)).trans (by kernel_rfl)
theorem slices_IndexFunc_api_Edge_api_Edge.l0_eq {call : Cl} {n : Nat} {J : Jn (AEnd × H)} (hJ : slices_IndexFunc_api_Edge_api_Edge.F call n J) (m0 : Nat) (x0 x1 x7 x8 : AV) (h : H) : slices_IndexFunc_api_Edge_api_Edge.l0 J (m0 + 1) x0 x1 x7 x8 h =
  (bin .lss x8 x7).bind fun v2 =>
  condV v2 (
    (ixSlice 7 x0 x8).bind fun v3 =>
    (ldAgg 7 h v3).bind fun v4 =>
    (callVal call h x1 [AV.canon v4]).bind fun p5 => retOr p5.1 (fun r6p => some (AEnd.pan r6p, p5.2)) fun r6 =>
    condV r6 (
      some (AEnd.ret (AV.copy x8), p5.2)) (
      (bin .add x8 (.int .i64 1)).bind fun v7 =>
      slices_IndexFunc_api_Edge_api_Edge.l0 J m0 x0 x1 x7 v7 p5.2)) (
    some (AEnd.ret (.int .i64 (-1)), h)) := (hJ _ _ _ (by kernel_rfl)).trans (by kernel_rfl)
noncomputable def result_note_c1.A : FAnn := { nv := 2, mv := [(1, 3)], ld := [], lst := [], obj := [], q := [], raw := [] }
noncomputable def result_note_c1.an : Ann := .nil
noncomputable abbrev result_note_c1.c : Code := Tryz.f162.body.getD .skip
noncomputable def result_note_c1.J (call : Cl) (n : Nat) : Jn (AEnd × H) := realJ Tryz.prog result_note_c1.A call Tryz.f162 result_note_c1.an result_note_c1.c n
abbrev result_note_c1.F (call : Cl) (n : Nat) (J : Jn (AEnd × H)) : Prop := JFix Tryz.prog result_note_c1.A call Tryz.f162 result_note_c1.an result_note_c1.c n J
def result_note_c1.f (J : Jn (AEnd × H)) (x0 : AV) (h : H) : Option (AEnd × H) := J [] [] ⟨[(0, x0)], [], [], h⟩
theorem result_note_c1.f_eq {call : Cl} {n : Nat} {J : Jn (AEnd × H)} (hJ : result_note_c1.F call n J) (x0 : AV) (h : H) : result_note_c1.f J x0 h =
  (bin .lss x0 (.int .i32 32)).bind fun v1 =>
  condV v1 (
    some (AEnd.ret (AV.copy (.bool true)), h)) (
    (bin .gtr x0 (.int .i32 126)).bind fun v2 =>
    some (AEnd.ret (AV.copy v2), h)) := (hJ _ _ _ (by kernel_rfl)).trans (by kernel_rfl)
noncomputable def leb_Get.A : FAnn := { nv := 8, mv := [(2, 0), (7, 0), (8, 0), (9, 0), (9, 1)], ld := [], lst := [], obj := [], q := [], raw := [] }
noncomputable def leb_Get.an : Ann := .mk none .nil (.mk none .nil (.mk none (.mk none .nil (.mk none (.mk none (.mk (some [(5, 0), (8, 0), (9, 0), (10, 0)]) .nil (.mk none .nil (.mk none (.mk none (.mk none .nil (.mk none (.mk none .nil (.mk (some [(5, 0), (6, 0), (7, 0), (8, 0), (9, 0), (10, 0), (28, 0)]) .nil .nil)) (.mk (some [(5, 0), (6, 0), (7, 0), (8, 0), (9, 0), (10, 0)]) .nil .nil))) .nil) .nil))) .nil) .nil)) .nil))
noncomputable abbrev leb_Get.c : Code := Tryz.f163.body.getD .skip
noncomputable def leb_Get.J (call : Cl) (n : Nat) : Jn (AEnd × H) := realJ Tryz.prog leb_Get.A call Tryz.f163 leb_Get.an leb_Get.c n
abbrev leb_Get.F (call : Cl) (n : Nat) (J : Jn (AEnd × H)) : Prop := JFix Tryz.prog leb_Get.A call Tryz.f163 leb_Get.an leb_Get.c n J
def leb_Get.f (J : Jn (AEnd × H)) (x0 : AV) (h : H) : Option (AEnd × H) := J [] [] ⟨[(0, x0)], [], [], h⟩
def leb_Get.l0 (J : Jn (AEnd × H)) (m0 : Nat) (x5 x8 x9 x10 : AV) (h : H) : Option (AEnd × H) := J [1, 1, 0, 1, 0] [m0] ⟨[(5, x5), (8, x8), (9, x9), (10, x10)], [(5, 0), (8, 0), (9, 0), (10, 0)], [], h⟩
def leb_Get.j1 (J : Jn (AEnd × H)) (m0 : Nat) (x5 x6 x7 x8 x9 x10 x28 : AV) (h : H) : Option (AEnd × H) := J [1, 1, 0, 1, 0, 0, 1, 1, 0, 0, 1, 0, 1] [m0] ⟨[(5, x5), (6, x6), (7, x7), (8, x8), (9, x9), (10, x10), (28, x28)], [(5, 0), (6, 0), (7, 0), (8, 0), (9, 0), (10, 0), (28, 0)], [], h⟩
def leb_Get.j0 (J : Jn (AEnd × H)) (m0 : Nat) (x5 x6 x7 x8 x9 x10 : AV) (h : H) : Option (AEnd × H) := J [1, 1, 0, 1, 0, 0, 1, 1, 0, 0, 1, 1] [m0] ⟨[(5, x5), (6, x6), (7, x7), (8, x8), (9, x9), (10, x10)], [(5, 0), (6, 0), (7, 0), (8, 0), (9, 0), (10, 0)], [], h⟩
theorem leb_Get.f_eq {call : Cl} {n : Nat} {J : Jn (AEnd × H)} (hJ : leb_Get.F call n J) (x0 : AV) (h : H) : leb_Get.f J x0 h =
  (lnSl x0).bind fun v1 =>
  leb_Get.l0 J n (.int .u64 0) x0 v1 (.int .i64 0) h := (hJ _ _ _ (by kernel_rfl)).trans (by kernel_rfl)
theorem leb_Get.l0_eq {call : Cl} {n : Nat} {J : Jn (AEnd × H)} (hJ : leb_Get.F call n J) (m0 : Nat) (x5 x8 x9 x10 : AV) (h : H) : leb_Get.l0 J (m0 + 1) x5 x8 x9 x10 h =
  (bin .lss x10 x9).bind fun v2 =>
  condV v2 (
    (ixSlice 1 x8 x10).bind fun v3 =>
    (ldCell h v3).bind fun v4 =>
    (bin .eql x10 (.int .i64 9)).bind fun v5 =>
    condV v5 (
      (bin .gtr v4 (.int .u8 1)).bind fun v6 =>
      condV v6 (
        leb_Get.j1 J m0 x5 x10 v4 x8 x9 x10 (.bool true) h) (
        (bin .gtr x10 (.int .i64 0)).bind fun v7 =>
        condV v7 (
          (bin .eql v4 (.int .u8 0)).bind fun v8 =>
          leb_Get.j1 J m0 x5 x10 v4 x8 x9 x10 v8 h) (
          leb_Get.j1 J m0 x5 x10 v4 x8 x9 x10 (.bool false) h))) (
      (bin .gtr x10 (.int .i64 0)).bind fun v9 =>
      condV v9 (
        (bin .eql v4 (.int .u8 0)).bind fun v10 =>
        leb_Get.j1 J m0 x5 x10 v4 x8 x9 x10 v10 h) (
        leb_Get.j1 J m0 x5 x10 v4 x8 x9 x10 (.bool false) h))) (
    some (AEnd.ret (.tuple [(.int .u64 0), (.int .i64 0), (.int .i64 10)]), h)) := (hJ _ _ _ (by kernel_rfl)).trans (by kernel_rfl)
theorem leb_Get.j1_eq {call : Cl} {n : Nat} {J : Jn (AEnd × H)} (hJ : leb_Get.F call n J) (m0 : Nat) (x5 x6 x7 x8 x9 x10 x28 : AV) (h : H) : leb_Get.j1 J m0 x5 x6 x7 x8 x9 x10 x28 h =
  condV x28 (
    some (AEnd.ret (.tuple [(.int .u64 0), (.int .i64 0), (.int .i64 11)]), h)) (
    leb_Get.j0 J m0 x5 x6 x7 x8 x9 x10 h) := (hJ _ _ _ (by kernel_rfl)).trans (by kernel_rfl)
theorem leb_Get.j0_eq {call : Cl} {n : Nat} {J : Jn (AEnd × H)} (hJ : leb_Get.F call n J) (m0 : Nat) (x5 x6 x7 x8 x9 x10 : AV) (h : H) : leb_Get.j0 J m0 x5 x6 x7 x8 x9 x10 h =
  (bin .andNot x7 (.int .u8 128)).bind fun v11 =>
  (cvInt .u64 v11).bind fun v12 =>
  (bin .mul (.int .i64 7) x6).bind fun v13 =>
  (bin .shl v12 v13).bind fun v14 =>
  (bin .or x5 v14).bind fun v15 =>
  (bin .lss x7 (.int .u8 128)).bind fun v16 =>
  condV v16 (
    (bin .add x6 (.int .i64 1)).bind fun v17 =>
    some (AEnd.ret (.tuple [(AV.copy v15), (AV.copy v17), (.int .i64 0)]), h)) (
    (bin .add x10 (.int .i64 1)).bind fun v18 =>
    leb_Get.l0 J m0 v15 x8 x9 v18 h) := (hJ _ _ _ (by kernel_rfl)).trans (by kernel_rfl)
noncomputable def cur_ask_int.A : FAnn := { nv := 6, mv := [(5, 0)], ld := [], lst := [], obj := [], q := [], raw := [], df := [(176, { nv := 6, mv := [(1, 0), (3, 2)], ld := [], raw := [] })] }
noncomputable def cur_ask_int.an : Ann := .mk none .nil (.mk none (.mk none .nil (.mk (some [(1, 0), (2, 0), (4, 0), (14, 0)]) .nil .nil)) (.mk (some [(1, 0), (2, 0), (4, 0)]) .nil .nil))
noncomputable abbrev cur_ask_int.c : Code := Tryz.f164.body.getD .skip
noncomputable abbrev cur_ask_int.dc (call : Cl) (n : Nat) := dcall Tryz.prog cur_ask_int.A call n
theorem cur_ask_int.d176_eq {call : Cl} {n : Nat} (x0 x1 x2 : AV) (h : H) (v : AV) : cur_ask_int.dc call n n_cur_ask_int__c1 [x0, x1, x2] h v =
  (taTo (.agg [.int .i64 0]) t_cur_broken true v).bind fun v1 =>
  (exTuple 0 v1).bind fun v2 =>
  (exTuple 1 v1).bind fun v3 =>
  let h4 : H := h ++ [.arr [.int .i64 0] false]
  (stN 1 h4 (.ptr h.length 0) (AV.copy v2)).bind fun p5 =>
  condV v3 (
    (ldCell p5.2 x2).bind fun v6 =>
    (ldCell p5.2 x2).bind fun v7 =>
    (ldCell p5.2 x0).bind fun v8 =>
    (fAddr 0 (.ptr h.length 0)).bind fun v9 =>
    (ldCell p5.2 v9).bind fun v10 =>
    (stN 1 p5.2 x1 (.int .i64 0)).bind fun p11 =>
    whenB (eqO (ldCell p11.2 v9) v10) (
      (nilOk v6).bind fun v12 =>
      (fAddr 1 v12).bind fun v13 =>
      (stN 1 p11.2 v13 (AV.copy v8)).bind fun p14 =>
      whenB (eqO (ldCell p14.2 v9) v10) (
        (nilOk v7).bind fun v15 =>
        (fAddr 2 v15).bind fun v16 =>
        (stN 1 p14.2 v16 (AV.copy v10)).bind fun p17 =>
        some p17.2))) (
    some p5.2) := (dcall_eq (P := Tryz.prog) (A := cur_ask_int.A) (f := 176) (d := { nv := 6, mv := [(1, 0), (3, 2)], ld := [], raw := [] }) (c := Tryz.f176.body.getD .skip) (args := [x0, x1, x2]) (by kernel_rfl) Tryz.func176 (by kernel_rfl) (by kernel_rfl)).trans (by kernel_rfl)
noncomputable def cur_ask_int.J (call : Cl) (n : Nat) : Jn (AEnd × H) := realJ Tryz.prog cur_ask_int.A call Tryz.f164 cur_ask_int.an cur_ask_int.c n
abbrev cur_ask_int.F (call : Cl) (n : Nat) (J : Jn (AEnd × H)) : Prop := JFix Tryz.prog cur_ask_int.A call Tryz.f164 cur_ask_int.an cur_ask_int.c n J
def cur_ask_int.f (J : Jn (AEnd × H)) (x0 x1 : AV) (h : H) : Option (AEnd × H) := J [] [] ⟨[(0, x0), (1, x1)], [], [], h⟩
def cur_ask_int.j1 (J : Jn (AEnd × H)) (x1 x2 x4 x14 : AV) (h : H) : Option (AEnd × H) := J [1, 0, 1] [] ⟨[(1, x1), (2, x2), (4, x4), (14, x14)], [(1, 0), (2, 0), (4, 0), (14, 0)], [], h⟩
def cur_ask_int.j0 (J : Jn (AEnd × H)) (x1 x2 x4 : AV) (h : H) : Option (AEnd × H) := J [1, 1] [] ⟨[(1, x1), (2, x2), (4, x4)], [(1, 0), (2, 0), (4, 0)], [], h⟩
theorem cur_ask_int.f_eq {call : Cl} {n : Nat} {J : Jn (AEnd × H)} (hJ : cur_ask_int.F call n J) (x0 x1 : AV) (h : H) : cur_ask_int.f J x0 x1 h =
  (bx h (AV.copy x0)).bind fun p1 =>
  let h2 : H := p1.2 ++ [.arr [.int .i64 0] false]
  (ldCell h2 p1.1).bind fun v3 =>
  (eqv false (aeq Tryz.prog 20 90 v3 .nilPtr)).bind fun v4 =>
  condV v4 (
    cur_ask_int.j1 J  x1 p1.1 (.ptr p1.2.length 0) (.bool true) h2) (
    (ldCell h2 p1.1).bind fun v5 =>
    (nilOk v5).bind fun v6 =>
    (fAddr 2 v6).bind fun v7 =>
    (ldCell h2 v7).bind fun v8 =>
    (bin .neq v8 (.int .i64 0)).bind fun v9 =>
    cur_ask_int.j1 J  x1 p1.1 (.ptr p1.2.length 0) v9 h2) := (hJ _ _ _ (by kernel_rfl)).trans (by kernel_rfl)
theorem cur_ask_int.j1_eq {call : Cl} {n : Nat} {J : Jn (AEnd × H)} (hJ : cur_ask_int.F call n J) (x1 x2 x4 x14 : AV) (h : H) : cur_ask_int.j1 J  x1 x2 x4 x14 h =
  condV x14 (
    (ldCell h x4).bind fun v10 =>
    (stN 1 h x4 (AV.copy v10)).bind fun p11 =>
    (resN [(ldCell p11.2 x4).map AV.copy]).map fun v => (AEnd.ret v, p11.2)) (
    cur_ask_int.j0 J  x1 x2 x4 h) := (hJ _ _ _ (by kernel_rfl)).trans (by kernel_rfl)
theorem cur_ask_int.j0_eq {call : Cl} {n : Nat} {J : Jn (AEnd × H)} (hJ : cur_ask_int.F call n J) (x1 x2 x4 : AV) (h : H) : cur_ask_int.j0 J  x1 x2 x4 h =
  (ldCell h x2).bind fun v12 =>
  (nilOk v12).bind fun v13 =>
  (fAddr 1 v13).bind fun v14 =>
  (ldCell h v14).bind fun v15 =>
  let h16 : H := h ++ [.arr [.int .i64 0] false]
  (stN 1 h16 (.ptr h.length 0) (AV.copy v15)).bind fun p17 =>
  (ldCell p17.2 x2).bind fun v18 =>
  (callVal call p17.2 x1 [AV.canon v18]).bind fun p19 => retOr p19.1 (fun r20p => (cur_ask_int.dc call n n_cur_ask_int__c1 [AV.copy (.ptr h.length 0), AV.copy x4, AV.copy x2] p19.2 r20p).bind fun h23 =>
  (resN [(ldCell h23 x4).map AV.copy]).map fun v => (AEnd.ret v, h23)) fun r20 =>
  (stN 1 p19.2 x4 r20).bind fun p21 =>
  (cur_ask_int.dc call n n_cur_ask_int__c1 [AV.copy (.ptr h.length 0), AV.copy x4, AV.copy x2] p21.2 .nilIface).bind fun h22 =>
  (resN [(ldCell h22 x4).map AV.copy]).map fun v => (AEnd.ret v, h22) := (hJ _ _ _ (by kernel_rfl)).trans (by kernel_rfl)
noncomputable def cur_Reader_Count_c1.A : FAnn := { nv := 3, mv := [(1, 0)], ld := [], lst := [], obj := [], q := [], raw := [] }
noncomputable def cur_Reader_Count_c1.an : Ann := .nil
noncomputable abbrev cur_Reader_Count_c1.c : Code := Tryz.f165.body.getD .skip
noncomputable def cur_Reader_Count_c1.J (call : Cl) (n : Nat) : Jn (AEnd × H) := realJ Tryz.prog cur_Reader_Count_c1.A call Tryz.f165 cur_Reader_Count_c1.an cur_Reader_Count_c1.c n
abbrev cur_Reader_Count_c1.F (call : Cl) (n : Nat) (J : Jn (AEnd × H)) : Prop := JFix Tryz.prog cur_Reader_Count_c1.A call Tryz.f165 cur_Reader_Count_c1.an cur_Reader_Count_c1.c n J
def cur_Reader_Count_c1.f (J : Jn (AEnd × H)) (x0 x1 : AV) (h : H) : Option (AEnd × H) := J [] [] ⟨[(0, x0), (1, x1)], [], [], h⟩
theorem cur_Reader_Count_c1.f_eq {call : Cl} {n : Nat} {J : Jn (AEnd × H)} (hJ : cur_Reader_Count_c1.F call n J) (x0 x1 : AV) (h : H) : cur_Reader_Count_c1.f J x0 x1 h =
  (ldCell h x1).bind fun v1 =>
  (call n_cur_Reader_upto [AV.canon x0, AV.canon v1] h).bind fun p2 => retOr p2.1 (fun r3p => some (AEnd.pan r3p, p2.2)) fun r3 =>
  some (AEnd.ret r3, p2.2) := (hJ _ _ _ (by kernel_rfl)).trans (by kernel_rfl)
noncomputable def cur_Reader_Left.A : FAnn := { nv := 2, mv := [(3, 5)], ld := [], lst := [], obj := [], q := [], raw := [] }
noncomputable def cur_Reader_Left.an : Ann := .mk none .nil (.mk none (.mk none .nil (.mk (some [(0, 0), (11, 0)]) .nil .nil)) (.mk (some [(0, 0)]) .nil .nil))
noncomputable abbrev cur_Reader_Left.c : Code := Tryz.f166.body.getD .skip
noncomputable def cur_Reader_Left.J (call : Cl) (n : Nat) : Jn (AEnd × H) := realJ Tryz.prog cur_Reader_Left.A call Tryz.f166 cur_Reader_Left.an cur_Reader_Left.c n
abbrev cur_Reader_Left.F (call : Cl) (n : Nat) (J : Jn (AEnd × H)) : Prop := JFix Tryz.prog cur_Reader_Left.A call Tryz.f166 cur_Reader_Left.an cur_Reader_Left.c n J
def cur_Reader_Left.f (J : Jn (AEnd × H)) (x0 : AV) (h : H) : Option (AEnd × H) := J [] [] ⟨[(0, x0)], [], [], h⟩
def cur_Reader_Left.j1 (J : Jn (AEnd × H)) (x0 x11 : AV) (h : H) : Option (AEnd × H) := J [1, 0, 1] [] ⟨[(0, x0), (11, x11)], [(0, 0), (11, 0)], [], h⟩
def cur_Reader_Left.j0 (J : Jn (AEnd × H)) (x0 : AV) (h : H) : Option (AEnd × H) := J [1, 1] [] ⟨[(0, x0)], [(0, 0)], [], h⟩
theorem cur_Reader_Left.f_eq {call : Cl} {n : Nat} {J : Jn (AEnd × H)} (hJ : cur_Reader_Left.F call n J) (x0 : AV) (h : H) : cur_Reader_Left.f J x0 h =
  (eqv false (aeq Tryz.prog 20 90 x0 .nilPtr)).bind fun v1 =>
  condV v1 (
    cur_Reader_Left.j1 J  x0 (.bool true) h) (
    (nilOk x0).bind fun v2 =>
    (fAddr 2 v2).bind fun v3 =>
    (ldCell h v3).bind fun v4 =>
    (bin .neq v4 (.int .i64 0)).bind fun v5 =>
    cur_Reader_Left.j1 J  x0 v5 h) := (hJ _ _ _ (by kernel_rfl)).trans (by kernel_rfl)
theorem cur_Reader_Left.j1_eq {call : Cl} {n : Nat} {J : Jn (AEnd × H)} (hJ : cur_Reader_Left.F call n J) (x0 x11 : AV) (h : H) : cur_Reader_Left.j1 J  x0 x11 h =
  condV x11 (
    some (AEnd.ret (.int .i64 0), h)) (
    cur_Reader_Left.j0 J  x0 h) := (hJ _ _ _ (by kernel_rfl)).trans (by kernel_rfl)
theorem cur_Reader_Left.j0_eq {call : Cl} {n : Nat} {J : Jn (AEnd × H)} (hJ : cur_Reader_Left.F call n J) (x0 : AV) (h : H) : cur_Reader_Left.j0 J  x0 h =
  (nilOk x0).bind fun v6 =>
  (fAddr 0 v6).bind fun v7 =>
  (ldCell h v7).bind fun v8 =>
  (lnSl v8).bind fun v9 =>
  (nilOk x0).bind fun v10 =>
  (fAddr 1 v10).bind fun v11 =>
  (ldCell h v11).bind fun v12 =>
  (bin .sub v9 v12).bind fun v13 =>
  some (AEnd.ret (AV.copy v13), h) := (hJ _ _ _ (by kernel_rfl)).trans (by kernel_rfl)
noncomputable def cur_Reader_Fail.A : FAnn := { nv := 4, mv := [(3, 0), (3, 1)], ld := [], lst := [], obj := [], q := [], raw := [] }
noncomputable def cur_Reader_Fail.an : Ann := .mk none .nil (.mk (some [(0, 0), (1, 0)]) .nil (.mk (some [(0, 0), (1, 0), (14, 0)]) .nil .nil))
noncomputable abbrev cur_Reader_Fail.c : Code := Tryz.f167.body.getD .skip
noncomputable def cur_Reader_Fail.J (call : Cl) (n : Nat) : Jn (AEnd × H) := realJ Tryz.prog cur_Reader_Fail.A call Tryz.f167 cur_Reader_Fail.an cur_Reader_Fail.c n
abbrev cur_Reader_Fail.F (call : Cl) (n : Nat) (J : Jn (AEnd × H)) : Prop := JFix Tryz.prog cur_Reader_Fail.A call Tryz.f167 cur_Reader_Fail.an cur_Reader_Fail.c n J
def cur_Reader_Fail.f (J : Jn (AEnd × H)) (x0 x1 : AV) (h : H) : Option (AEnd × H) := J [] [] ⟨[(0, x0), (1, x1)], [], [], h⟩
def cur_Reader_Fail.j0 (J : Jn (AEnd × H)) (x0 x1 : AV) (h : H) : Option (AEnd × H) := J [1] [] ⟨[(0, x0), (1, x1)], [(0, 0), (1, 0)], [], h⟩
def cur_Reader_Fail.j1 (J : Jn (AEnd × H)) (x0 x1 x14 : AV) (h : H) : Option (AEnd × H) := J [1, 1] [] ⟨[(0, x0), (1, x1), (14, x14)], [(0, 0), (1, 0), (14, 0)], [], h⟩
theorem cur_Reader_Fail.f_eq {call : Cl} {n : Nat} {J : Jn (AEnd × H)} (hJ : cur_Reader_Fail.F call n J) (x0 x1 : AV) (h : H) : cur_Reader_Fail.f J x0 x1 h =
  (bin .eql x1 (.int .i64 0)).bind fun v1 =>
  condV v1 (
    cur_Reader_Fail.j0 J  x0 (.int .i64 1) h) (
    cur_Reader_Fail.j0 J  x0 x1 h) := (hJ _ _ _ (by kernel_rfl)).trans (by kernel_rfl)
theorem cur_Reader_Fail.j0_eq {call : Cl} {n : Nat} {J : Jn (AEnd × H)} (hJ : cur_Reader_Fail.F call n J) (x0 x1 : AV) (h : H) : cur_Reader_Fail.j0 J  x0 x1 h =
  (eqv true (aeq Tryz.prog 20 90 x0 .nilPtr)).bind fun v2 =>
  condV v2 (
    (nilOk x0).bind fun v3 =>
    (fAddr 2 v3).bind fun v4 =>
    (ldCell h v4).bind fun v5 =>
    (bin .eql v5 (.int .i64 0)).bind fun v6 =>
    cur_Reader_Fail.j1 J  x0 x1 v6 h) (
    cur_Reader_Fail.j1 J  x0 x1 (.bool false) h) := (hJ _ _ _ (by kernel_rfl)).trans (by kernel_rfl)
theorem cur_Reader_Fail.j1_eq {call : Cl} {n : Nat} {J : Jn (AEnd × H)} (hJ : cur_Reader_Fail.F call n J) (x0 x1 x14 : AV) (h : H) : cur_Reader_Fail.j1 J  x0 x1 x14 h =
  condV x14 (
    (nilOk x0).bind fun v7 =>
    (fAddr 2 v7).bind fun v8 =>
    (stN 1 h v8 (AV.copy x1)).bind fun p9 =>
    some (AEnd.ret (.tuple []), p9.2)) (
    some (AEnd.ret (.tuple []), h)) := (hJ _ _ _ (by kernel_rfl)).trans (by kernel_rfl)
noncomputable def ref03_bit.A : FAnn := { nv := 6, mv := [(1, 2), (2, 0), (3, 0), (4, 0), (5, 0)], ld := [], lst := [], obj := [], q := [], raw := [] }
noncomputable def ref03_bit.an : Ann := .nil
noncomputable abbrev ref03_bit.c : Code := Tryz.f168.body.getD .skip
noncomputable def ref03_bit.J (call : Cl) (n : Nat) : Jn (AEnd × H) := realJ Tryz.prog ref03_bit.A call Tryz.f168 ref03_bit.an ref03_bit.c n
abbrev ref03_bit.F (call : Cl) (n : Nat) (J : Jn (AEnd × H)) : Prop := JFix Tryz.prog ref03_bit.A call Tryz.f168 ref03_bit.an ref03_bit.c n J
def ref03_bit.f (J : Jn (AEnd × H)) (x0 x1 : AV) (h : H) : Option (AEnd × H) := J [] [] ⟨[(0, x0), (1, x1)], [], [], h⟩
theorem ref03_bit.f_eq {call : Cl} {n : Nat} {J : Jn (AEnd × H)} (hJ : ref03_bit.F call n J) (x0 x1 : AV) (h : H) : ref03_bit.f J x0 x1 h =
  (bin .rem x0 (.int .u32 2)).bind fun v1 =>
  (bin .rem x1 (.int .u32 2)).bind fun v2 =>
  (bin .neq v1 v2).bind fun v3 =>
  (bin .quo x0 (.int .u32 2)).bind fun v4 =>
  condV v3 (
    (bin .xor v4 (.int .u32 2197175160)).bind fun v5 =>
    some (AEnd.ret (AV.copy v5), h)) (
    some (AEnd.ret (AV.copy v4), h)) := (hJ _ _ _ (by kernel_rfl)).trans (by kernel_rfl)
noncomputable def strings_indexFunc.A : FAnn := { nv := 9, mv := [(1, 0), (4, 1), (5, 0)], ld := [], lst := [], obj := [], q := [], raw := [] }
noncomputable def strings_indexFunc.an : Ann := .mk none .nil (.mk none (.mk none .nil (.mk none (.mk none (.mk (some [(1, 0), (2, 0), (10, 0)]) .nil .nil) .nil) .nil)) .nil)
noncomputable abbrev strings_indexFunc.c : Code := Tryz.f169.body.getD .skip
noncomputable def strings_indexFunc.J (call : Cl) (n : Nat) : Jn (AEnd × H) := realJ Tryz.prog strings_indexFunc.A call Tryz.f169 strings_indexFunc.an strings_indexFunc.c n
abbrev strings_indexFunc.F (call : Cl) (n : Nat) (J : Jn (AEnd × H)) : Prop := JFix Tryz.prog strings_indexFunc.A call Tryz.f169 strings_indexFunc.an strings_indexFunc.c n J
def strings_indexFunc.f (J : Jn (AEnd × H)) (x0 x1 x2 : AV) (h : H) : Option (AEnd × H) := J [] [] ⟨[(0, x0), (1, x1), (2, x2)], [], [], h⟩
def strings_indexFunc.l0 (J : Jn (AEnd × H)) (m0 : Nat) (x1 x2 x10 : AV) (h : H) : Option (AEnd × H) := J [1, 0, 1, 0] [m0] ⟨[(1, x1), (2, x2), (10, x10)], [(1, 0), (2, 0), (10, 0)], [], h⟩
theorem strings_indexFunc.f_eq {call : Cl} {n : Nat} {J : Jn (AEnd × H)} (hJ : strings_indexFunc.F call n J) (x0 x1 x2 : AV) (h : H) : strings_indexFunc.f J x0 x1 x2 h =
  (rgStr h x0).bind fun p1 =>
  strings_indexFunc.l0 J n x1 x2 p1.1 p1.2 := (hJ _ _ _ (by kernel_rfl)).trans (by kernel_rfl)
theorem strings_indexFunc.l0_eq {call : Cl} {n : Nat} {J : Jn (AEnd × H)} (hJ : strings_indexFunc.F call n J) (m0 : Nat) (x1 x2 x10 : AV) (h : H) : strings_indexFunc.l0 J (m0 + 1) x1 x2 x10 h =
  (next h x10 true).bind fun p2 =>
  (exTuple 0 p2.1).bind fun v3 =>
  condV v3 (
    (exTuple 1 p2.1).bind fun v4 =>
    (exTuple 2 p2.1).bind fun v5 =>
    (callVal call p2.2 x1 [AV.canon v5]).bind fun p6 => retOr p6.1 (fun r7p => some (AEnd.pan r7p, p6.2)) fun r7 =>
    (binBool .eql r7 x2).bind fun v8 =>
    condV v8 (
      some (AEnd.ret (AV.copy v4), p6.2)) (
      strings_indexFunc.l0 J m0 x1 x2 x10 p6.2)) (
    some (AEnd.ret (.int .i64 (-1)), p2.2)) := (hJ _ _ _ (by kernel_rfl)).trans (by kernel_rfl)
noncomputable def prog_kinds_c1.A : FAnn := { nv := 4, mv := [(1, 7)], ld := [], lst := [], obj := [], q := [], raw := [] }
noncomputable def prog_kinds_c1.an : Ann := .nil
noncomputable abbrev prog_kinds_c1.c : Code := Tryz.f170.body.getD .skip
noncomputable def prog_kinds_c1.J (call : Cl) (n : Nat) : Jn (AEnd × H) := realJ Tryz.prog prog_kinds_c1.A call Tryz.f170 prog_kinds_c1.an prog_kinds_c1.c n
abbrev prog_kinds_c1.F (call : Cl) (n : Nat) (J : Jn (AEnd × H)) : Prop := JFix Tryz.prog prog_kinds_c1.A call Tryz.f170 prog_kinds_c1.an prog_kinds_c1.c n J
def prog_kinds_c1.f (J : Jn (AEnd × H)) (x0 x1 : AV) (h : H) : Option (AEnd × H) := J [] [] ⟨[(0, x0), (1, x1)], [], [], h⟩
theorem prog_kinds_c1.f_eq {call : Cl} {n : Nat} {J : Jn (AEnd × H)} (hJ : prog_kinds_c1.F call n J) (x0 x1 : AV) (h : H) : prog_kinds_c1.f J x0 x1 h =
  (bx h (AV.copy x0)).bind fun p1 =>
  (fAddr 1 p1.1).bind fun v2 =>
  (ldCell p1.2 v2).bind fun v3 =>
  (call n_prog_some [AV.canon v3, AV.canon x1] p1.2).bind fun p4 => retOr p4.1 (fun r5p => some (AEnd.pan r5p, p4.2)) fun r5 =>
  condV r5 (
    (fAddr 2 p1.1).bind fun v6 =>
    (ldCell p4.2 v6).bind fun v7 =>
    (call n_prog_some [AV.canon v7, AV.canon x1] p4.2).bind fun p8 => retOr p8.1 (fun r9p => some (AEnd.pan r9p, p8.2)) fun r9 =>
    condV r9 (
      (fAddr 1 p1.1).bind fun v10 =>
      (ldCell p8.2 v10).bind fun v11 =>
      (fAddr 2 p1.1).bind fun v12 =>
      (ldCell p8.2 v12).bind fun v13 =>
      (bin .neq v11 v13).bind fun v14 =>
      condV v14 (
        (fAddr 3 p1.1).bind fun v15 =>
        (ldCell p8.2 v15).bind fun v16 =>
        (call n_val_Is [AV.canon v16] p8.2).bind fun p17 => retOr p17.1 (fun r18p => some (AEnd.pan r18p, p17.2)) fun r18 =>
        condV r18 (
          (fAddr 4 p1.1).bind fun v19 =>
          (ldCell p17.2 v19).bind fun v20 =>
          (bin .eql v20 (.int .i64 0)).bind fun v21 =>
          some (AEnd.ret (AV.copy v21), p17.2)) (
          some (AEnd.ret (AV.copy (.bool false)), p17.2))) (
        some (AEnd.ret (AV.copy (.bool false)), p8.2))) (
      some (AEnd.ret (AV.copy (.bool false)), p8.2))) (
    some (AEnd.ret (AV.copy (.bool false)), p4.2)) := (hJ _ _ _ (by kernel_rfl)).trans (by kernel_rfl)
noncomputable def val_Is.A : FAnn := { nv := 2, mv := [(1, 2)], ld := [], lst := [], obj := [], q := [], raw := [] }
noncomputable def val_Is.an : Ann := .nil
noncomputable abbrev val_Is.c : Code := Tryz.f171.body.getD .skip
noncomputable def val_Is.J (call : Cl) (n : Nat) : Jn (AEnd × H) := realJ Tryz.prog val_Is.A call Tryz.f171 val_Is.an val_Is.c n
abbrev val_Is.F (call : Cl) (n : Nat) (J : Jn (AEnd × H)) : Prop := JFix Tryz.prog val_Is.A call Tryz.f171 val_Is.an val_Is.c n J
def val_Is.f (J : Jn (AEnd × H)) (x0 : AV) (h : H) : Option (AEnd × H) := J [] [] ⟨[(0, x0)], [], [], h⟩
theorem val_Is.f_eq {call : Cl} {n : Nat} {J : Jn (AEnd × H)} (hJ : val_Is.F call n J) (x0 : AV) (h : H) : val_Is.f J x0 h =
  (call n_val_Clip [AV.canon x0] h).bind fun p1 => retOr p1.1 (fun r2p => some (AEnd.pan r2p, p1.2)) fun r2 =>
  (bin .eql r2 x0).bind fun v3 =>
  some (AEnd.ret (AV.copy v3), p1.2) := (hJ _ _ _ (by kernel_rfl)).trans (by kernel_rfl)
noncomputable def prog_kinds_c2.A : FAnn := { nv := 4, mv := [], ld := [], lst := [], obj := [], q := [], raw := [] }
noncomputable def prog_kinds_c2.an : Ann := .nil
noncomputable abbrev prog_kinds_c2.c : Code := Tryz.f172.body.getD .skip
noncomputable def prog_kinds_c2.J (call : Cl) (n : Nat) : Jn (AEnd × H) := realJ Tryz.prog prog_kinds_c2.A call Tryz.f172 prog_kinds_c2.an prog_kinds_c2.c n
abbrev prog_kinds_c2.F (call : Cl) (n : Nat) (J : Jn (AEnd × H)) : Prop := JFix Tryz.prog prog_kinds_c2.A call Tryz.f172 prog_kinds_c2.an prog_kinds_c2.c n J
def prog_kinds_c2.f (J : Jn (AEnd × H)) (x0 x1 : AV) (h : H) : Option (AEnd × H) := J [] [] ⟨[(0, x0), (1, x1)], [], [], h⟩
theorem prog_kinds_c2.f_eq {call : Cl} {n : Nat} {J : Jn (AEnd × H)} (hJ : prog_kinds_c2.F call n J) (x0 x1 : AV) (h : H) : prog_kinds_c2.f J x0 x1 h =
  (bx h (AV.copy x0)).bind fun p1 =>
  (ldAgg 5 p1.2 p1.1).bind fun v2 =>
  (mkAgg [.int .i64 0, .int .i64 0, .int .i64 0, .int .i64 0, .int .i64 0] [(0, 1, AV.copy (.int .i64 1))]).bind fun v3 =>
  (eqv false (aeq Tryz.prog 20 t_api_Stmt v2 v3)).bind fun v4 =>
  some (AEnd.ret (AV.copy v4), p1.2) := (hJ _ _ _ (by kernel_rfl)).trans (by kernel_rfl)
noncomputable def prog_kinds_c3.A : FAnn := { nv := 4, mv := [(1, 7)], ld := [], lst := [], obj := [], q := [], raw := [] }
noncomputable def prog_kinds_c3.an : Ann := .nil
noncomputable abbrev prog_kinds_c3.c : Code := Tryz.f173.body.getD .skip
noncomputable def prog_kinds_c3.J (call : Cl) (n : Nat) : Jn (AEnd × H) := realJ Tryz.prog prog_kinds_c3.A call Tryz.f173 prog_kinds_c3.an prog_kinds_c3.c n
abbrev prog_kinds_c3.F (call : Cl) (n : Nat) (J : Jn (AEnd × H)) : Prop := JFix Tryz.prog prog_kinds_c3.A call Tryz.f173 prog_kinds_c3.an prog_kinds_c3.c n J
def prog_kinds_c3.f (J : Jn (AEnd × H)) (x0 x1 : AV) (h : H) : Option (AEnd × H) := J [] [] ⟨[(0, x0), (1, x1)], [], [], h⟩
theorem prog_kinds_c3.f_eq {call : Cl} {n : Nat} {J : Jn (AEnd × H)} (hJ : prog_kinds_c3.F call n J) (x0 x1 : AV) (h : H) : prog_kinds_c3.f J x0 x1 h =
  (bx h (AV.copy x0)).bind fun p1 =>
  (fAddr 1 p1.1).bind fun v2 =>
  (ldCell p1.2 v2).bind fun v3 =>
  (call n_prog_one [AV.canon v3, AV.canon x1] p1.2).bind fun p4 => retOr p4.1 (fun r5p => some (AEnd.pan r5p, p4.2)) fun r5 =>
  condV r5 (
    (fAddr 2 p1.1).bind fun v6 =>
    (ldCell p4.2 v6).bind fun v7 =>
    (call n_prog_some [AV.canon v7, AV.canon x1] p4.2).bind fun p8 => retOr p8.1 (fun r9p => some (AEnd.pan r9p, p8.2)) fun r9 =>
    condV r9 (
      (fAddr 3 p1.1).bind fun v10 =>
      (ldCell p8.2 v10).bind fun v11 =>
      (call n_val_Is [AV.canon v11] p8.2).bind fun p12 => retOr p12.1 (fun r13p => some (AEnd.pan r13p, p12.2)) fun r13 =>
      condV r13 (
        (fAddr 4 p1.1).bind fun v14 =>
        (ldCell p12.2 v14).bind fun v15 =>
        (bin .eql v15 (.int .i64 0)).bind fun v16 =>
        some (AEnd.ret (AV.copy v16), p12.2)) (
        some (AEnd.ret (AV.copy (.bool false)), p12.2))) (
      some (AEnd.ret (AV.copy (.bool false)), p8.2))) (
    some (AEnd.ret (AV.copy (.bool false)), p4.2)) := (hJ _ _ _ (by kernel_rfl)).trans (by kernel_rfl)
noncomputable def prog_kinds_c4.A : FAnn := { nv := 4, mv := [(1, 2)], ld := [], lst := [], obj := [], q := [], raw := [] }
noncomputable def prog_kinds_c4.an : Ann := .nil
noncomputable abbrev prog_kinds_c4.c : Code := Tryz.f174.body.getD .skip
noncomputable def prog_kinds_c4.J (call : Cl) (n : Nat) : Jn (AEnd × H) := realJ Tryz.prog prog_kinds_c4.A call Tryz.f174 prog_kinds_c4.an prog_kinds_c4.c n
abbrev prog_kinds_c4.F (call : Cl) (n : Nat) (J : Jn (AEnd × H)) : Prop := JFix Tryz.prog prog_kinds_c4.A call Tryz.f174 prog_kinds_c4.an prog_kinds_c4.c n J
def prog_kinds_c4.f (J : Jn (AEnd × H)) (x0 x1 : AV) (h : H) : Option (AEnd × H) := J [] [] ⟨[(0, x0), (1, x1)], [], [], h⟩
theorem prog_kinds_c4.f_eq {call : Cl} {n : Nat} {J : Jn (AEnd × H)} (hJ : prog_kinds_c4.F call n J) (x0 x1 : AV) (h : H) : prog_kinds_c4.f J x0 x1 h =
  (bx h (AV.copy x0)).bind fun p1 =>
  (fAddr 1 p1.1).bind fun v2 =>
  (ldCell p1.2 v2).bind fun v3 =>
  (call n_prog_one [AV.canon v3, AV.canon x1] p1.2).bind fun p4 => retOr p4.1 (fun r5p => some (AEnd.pan r5p, p4.2)) fun r5 =>
  condV r5 (
    (fAddr 2 p1.1).bind fun v6 =>
    (ldCell p4.2 v6).bind fun v7 =>
    (bin .eql v7 (.int .i64 0)).bind fun v8 =>
    condV v8 (
      (fAddr 3 p1.1).bind fun v9 =>
      (ldCell p4.2 v9).bind fun v10 =>
      (call n_val_Is [AV.canon v10] p4.2).bind fun p11 => retOr p11.1 (fun r12p => some (AEnd.pan r12p, p11.2)) fun r12 =>
      condV r12 (
        (fAddr 4 p1.1).bind fun v13 =>
        (ldCell p11.2 v13).bind fun v14 =>
        (call n_val_Is [AV.canon v14] p11.2).bind fun p15 => retOr p15.1 (fun r16p => some (AEnd.pan r16p, p15.2)) fun r16 =>
        condV r16 (
          (fAddr 3 p1.1).bind fun v17 =>
          (ldCell p15.2 v17).bind fun v18 =>
          (fAddr 4 p1.1).bind fun v19 =>
          (ldCell p15.2 v19).bind fun v20 =>
          (bin .leq v18 v20).bind fun v21 =>
          some (AEnd.ret (AV.copy v21), p15.2)) (
          some (AEnd.ret (AV.copy (.bool false)), p15.2))) (
        some (AEnd.ret (AV.copy (.bool false)), p11.2))) (
      some (AEnd.ret (AV.copy (.bool false)), p4.2))) (
    some (AEnd.ret (AV.copy (.bool false)), p4.2)) := (hJ _ _ _ (by kernel_rfl)).trans (by kernel_rfl)
noncomputable def prog_letter.A : FAnn := { nv := 2, mv := [(1, 15)], ld := [], lst := [], obj := [], q := [], raw := [] }
noncomputable def prog_letter.an : Ann := .nil
noncomputable abbrev prog_letter.c : Code := Tryz.f175.body.getD .skip
noncomputable def prog_letter.J (call : Cl) (n : Nat) : Jn (AEnd × H) := realJ Tryz.prog prog_letter.A call Tryz.f175 prog_letter.an prog_letter.c n
abbrev prog_letter.F (call : Cl) (n : Nat) (J : Jn (AEnd × H)) : Prop := JFix Tryz.prog prog_letter.A call Tryz.f175 prog_letter.an prog_letter.c n J
def prog_letter.f (J : Jn (AEnd × H)) (x0 : AV) (h : H) : Option (AEnd × H) := J [] [] ⟨[(0, x0)], [], [], h⟩
theorem prog_letter.f_eq {call : Cl} {n : Nat} {J : Jn (AEnd × H)} (hJ : prog_letter.F call n J) (x0 : AV) (h : H) : prog_letter.f J x0 h =
  (bin .geq x0 (.int .i32 97)).bind fun v1 =>
  condV v1 (
    (bin .leq x0 (.int .i32 122)).bind fun v2 =>
    condV v2 (
      some (AEnd.ret (AV.copy (.bool true)), h)) (
      (bin .geq x0 (.int .i32 65)).bind fun v3 =>
      condV v3 (
        (bin .leq x0 (.int .i32 90)).bind fun v4 =>
        condV v4 (
          some (AEnd.ret (AV.copy (.bool true)), h)) (
          (bin .eql x0 (.int .i32 95)).bind fun v5 =>
          some (AEnd.ret (AV.copy v5), h))) (
        (bin .eql x0 (.int .i32 95)).bind fun v6 =>
        some (AEnd.ret (AV.copy v6), h)))) (
    (bin .geq x0 (.int .i32 65)).bind fun v7 =>
    condV v7 (
      (bin .leq x0 (.int .i32 90)).bind fun v8 =>
      condV v8 (
        some (AEnd.ret (AV.copy (.bool true)), h)) (
        (bin .eql x0 (.int .i32 95)).bind fun v9 =>
        some (AEnd.ret (AV.copy v9), h))) (
      (bin .eql x0 (.int .i32 95)).bind fun v10 =>
      some (AEnd.ret (AV.copy v10), h))) := (hJ _ _ _ (by kernel_rfl)).trans (by kernel_rfl)
noncomputable def val_Clip.A : FAnn := { nv := 2, mv := [(1, 0)], ld := [], lst := [], obj := [], q := [], raw := [] }
noncomputable def val_Clip.an : Ann := .nil
noncomputable abbrev val_Clip.c : Code := Tryz.f177.body.getD .skip
noncomputable def val_Clip.J (call : Cl) (n : Nat) : Jn (AEnd × H) := realJ Tryz.prog val_Clip.A call Tryz.f177 val_Clip.an val_Clip.c n
abbrev val_Clip.F (call : Cl) (n : Nat) (J : Jn (AEnd × H)) : Prop := JFix Tryz.prog val_Clip.A call Tryz.f177 val_Clip.an val_Clip.c n J
def val_Clip.f (J : Jn (AEnd × H)) (x0 : AV) (h : H) : Option (AEnd × H) := J [] [] ⟨[(0, x0)], [], [], h⟩
theorem val_Clip.f_eq {call : Cl} {n : Nat} {J : Jn (AEnd × H)} (hJ : val_Clip.F call n J) (x0 : AV) (h : H) : val_Clip.f J x0 h =
  (maxMinAll true [x0, .int .i64 (-1099511627776)]).bind fun v1 =>
  (maxMinAll false [v1, .int .i64 1099511627776]).bind fun v2 =>
  some (AEnd.ret (AV.copy v2), h) := (hJ _ _ _ (by kernel_rfl)).trans (by kernel_rfl)
end Go.Proofs.YtdlnkfghgbddhaaGreat
