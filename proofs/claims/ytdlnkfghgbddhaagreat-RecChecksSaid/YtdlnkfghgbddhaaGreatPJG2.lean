/- The functions, as the evaluator sees them: printed by a program. -/
import Derived.Test.YtdlnkfghgbddhaaGreatVa5
import Derived.Test.YtdlnkfghgbddhaaGreatProg
import Derived.Test.YtdlnkfghgbddhaaGreatPJN
set_option linter.all false

open Go Go.Ve Go.Proofs
namespace Go.Proofs.YtdlnkfghgbddhaaGreat
set_option maxRecDepth 100000

/-! ### (*warrantor/cur.Reader).Word: function 63 -/
noncomputable def cur_Reader_Word.A : FAnn := { nv := 2, mv := [(1, 0)], ld := [], lst := [], obj := [], q := [], raw := [] }
noncomputable def cur_Reader_Word.an : Ann := .nil
noncomputable abbrev cur_Reader_Word.c : Code := Tryz.f63.body.getD .skip
noncomputable def cur_Reader_Word.J (call : Cl) (n : Nat) : Jn (AEnd × H) := realJ Tryz.prog cur_Reader_Word.A call Tryz.f63 cur_Reader_Word.an cur_Reader_Word.c n
abbrev cur_Reader_Word.F (call : Cl) (n : Nat) (J : Jn (AEnd × H)) : Prop := JFix Tryz.prog cur_Reader_Word.A call Tryz.f63 cur_Reader_Word.an cur_Reader_Word.c n J
def cur_Reader_Word.f (J : Jn (AEnd × H)) (x0 : AV) (h : H) : Option (AEnd × H) := J [] [] ⟨[(0, x0)], [], [], h⟩
theorem cur_Reader_Word.f_eq {call : Cl} {n : Nat} {J : Jn (AEnd × H)} (hJ : cur_Reader_Word.F call n J) (x0 : AV) (h : H) : cur_Reader_Word.f J x0 h =
  (call n_cur_ask_uint32 [AV.canon x0, AV.canon (.func (.func n_cur_Reader_word) [] [])] h).bind fun p1 => retOr p1.1 (fun r2p => some (AEnd.pan r2p, p1.2)) fun r2 =>
  some (AEnd.ret r2, p1.2) := (hJ _ _ _ (by kernel_rfl)).trans (by kernel_rfl)
/-! ### (*warrantor/cur.Reader).Err: function 64 -/
noncomputable def cur_Reader_Err.A : FAnn := { nv := 2, mv := [(3, 0)], ld := [], lst := [], obj := [], q := [], raw := [] }
noncomputable def cur_Reader_Err.an : Ann := .nil
noncomputable abbrev cur_Reader_Err.c : Code := Tryz.f64.body.getD .skip
noncomputable def cur_Reader_Err.J (call : Cl) (n : Nat) : Jn (AEnd × H) := realJ Tryz.prog cur_Reader_Err.A call Tryz.f64 cur_Reader_Err.an cur_Reader_Err.c n
abbrev cur_Reader_Err.F (call : Cl) (n : Nat) (J : Jn (AEnd × H)) : Prop := JFix Tryz.prog cur_Reader_Err.A call Tryz.f64 cur_Reader_Err.an cur_Reader_Err.c n J
def cur_Reader_Err.f (J : Jn (AEnd × H)) (x0 : AV) (h : H) : Option (AEnd × H) := J [] [] ⟨[(0, x0)], [], [], h⟩
theorem cur_Reader_Err.f_eq {call : Cl} {n : Nat} {J : Jn (AEnd × H)} (hJ : cur_Reader_Err.F call n J) (x0 : AV) (h : H) : cur_Reader_Err.f J x0 h =
  (eqv false (aeq Tryz.prog 20 90 x0 .nilPtr)).bind fun v1 =>
  condV v1 (
    some (AEnd.ret (.int .i64 6), h)) (
    (nilOk x0).bind fun v2 =>
    (fAddr 2 v2).bind fun v3 =>
    (ldCell h v3).bind fun v4 =>
    some (AEnd.ret (AV.copy v4), h)) := (hJ _ _ _ (by kernel_rfl)).trans (by kernel_rfl)
/-! ### warrantor/crc.Whole: function 65 -/
noncomputable def crc_Whole.A : FAnn := { nv := 4, mv := [(1, 0), (1, 2)], ld := [], lst := [], obj := [], q := [], raw := [] }
noncomputable def crc_Whole.an : Ann := .nil
noncomputable abbrev crc_Whole.c : Code := Tryz.f65.body.getD .skip
noncomputable def crc_Whole.J (call : Cl) (n : Nat) : Jn (AEnd × H) := realJ Tryz.prog crc_Whole.A call Tryz.f65 crc_Whole.an crc_Whole.c n
abbrev crc_Whole.F (call : Cl) (n : Nat) (J : Jn (AEnd × H)) : Prop := JFix Tryz.prog crc_Whole.A call Tryz.f65 crc_Whole.an crc_Whole.c n J
def crc_Whole.f (J : Jn (AEnd × H)) (x0 x1 : AV) (h : H) : Option (AEnd × H) := J [] [] ⟨[(0, x0), (1, x1)], [], [], h⟩
theorem crc_Whole.f_eq {call : Cl} {n : Nat} {J : Jn (AEnd × H)} (hJ : crc_Whole.F call n J) (x0 x1 : AV) (h : H) : crc_Whole.f J x0 x1 h =
  (call n_crc_Sum [AV.canon x0] h).bind fun p1 => retOr p1.1 (fun r2p => some (AEnd.pan r2p, p1.2)) fun r2 =>
  (bin .eql r2 x1).bind fun v3 =>
  some (AEnd.ret (AV.copy v3), p1.2) := (hJ _ _ _ (by kernel_rfl)).trans (by kernel_rfl)
/-! ### warrantor/rec.read: function 66 -/
noncomputable def rec_read.A : FAnn := { nv := 4, mv := [(2, 0)], ld := [], lst := [], obj := [], q := [], raw := [], df := [(113, { nv := 4, mv := [(1, 0)], ld := [], raw := [] })] }
noncomputable def rec_read.an : Ann := .nil
noncomputable abbrev rec_read.c : Code := Tryz.f66.body.getD .skip
noncomputable abbrev rec_read.dc (call : Cl) (n : Nat) := dcall Tryz.prog rec_read.A call n
theorem rec_read.d113_eq {call : Cl} {n : Nat} (x0 x1 : AV) (h : H) (v : AV) : rec_read.dc call n n_rec_read_c1 [x0, x1] h v =
  (taTo (.agg []) t_rec_broken true v).bind fun v1 =>
  (exTuple 0 v1).bind fun v2 =>
  (exTuple 1 v1).bind fun v3 =>
  let h4 : H := h ++ [.arr [] false]
  (stN 0 h4 (.ptr h.length 0) (AV.copy v2)).bind fun p5 =>
  condV v3 (
    (stN 1 p5.2 x0 (.list [] .cap)).bind fun p6 =>
    (stN 1 p6.2 x1 (.bool false)).bind fun p7 =>
    some p7.2) (
    some p5.2) := (dcall_eq (P := Tryz.prog) (A := rec_read.A) (f := 113) (d := { nv := 4, mv := [(1, 0)], ld := [], raw := [] }) (c := Tryz.f113.body.getD .skip) (args := [x0, x1]) (by kernel_rfl) Tryz.func113 (by kernel_rfl) (by kernel_rfl)).trans (by kernel_rfl)
noncomputable def rec_read.J (call : Cl) (n : Nat) : Jn (AEnd × H) := realJ Tryz.prog rec_read.A call Tryz.f66 rec_read.an rec_read.c n
abbrev rec_read.F (call : Cl) (n : Nat) (J : Jn (AEnd × H)) : Prop := JFix Tryz.prog rec_read.A call Tryz.f66 rec_read.an rec_read.c n J
def rec_read.f (J : Jn (AEnd × H)) (x0 : AV) (h : H) : Option (AEnd × H) := J [] [] ⟨[(0, x0)], [], [], h⟩
theorem rec_read.f_eq {call : Cl} {n : Nat} {J : Jn (AEnd × H)} (hJ : rec_read.F call n J) (x0 : AV) (h : H) : rec_read.f J x0 h =
  let h1 : H := h ++ [.arr [.list [] .cap] false]
  let h2 : H := h1 ++ [.arr [.bool false] false]
  (call n_rec_changes [AV.canon x0] h2).bind fun p3 => retOr p3.1 (fun r4p => (rec_read.dc call n n_rec_read_c1 [AV.copy (.ptr h.length 0), AV.copy (.ptr h1.length 0)] p3.2 r4p).bind fun h8 =>
  (resN [(ldCell h8 (.ptr h.length 0)).map AV.copy, (ldCell h8 (.ptr h1.length 0)).map AV.copy]).map fun v => (AEnd.ret v, h8)) fun r4 =>
  (stN 1 p3.2 (.ptr h.length 0) r4).bind fun p5 =>
  (stN 1 p5.2 (.ptr h1.length 0) (.bool true)).bind fun p6 =>
  (rec_read.dc call n n_rec_read_c1 [AV.copy (.ptr h.length 0), AV.copy (.ptr h1.length 0)] p6.2 .nilIface).bind fun h7 =>
  (resN [(ldCell h7 (.ptr h.length 0)).map AV.copy, (ldCell h7 (.ptr h1.length 0)).map AV.copy]).map fun v => (AEnd.ret v, h7) := (hJ _ _ _ (by kernel_rfl)).trans (by kernel_rfl)
/-! ### warrantor/warrantorref27.Open: function 67 -/
noncomputable def warrantorref27_Open.A : FAnn := { nv := 9, mv := [(6, 0), (7, 0), (7, 1), (7, 4), (9, 0), (9, 2)], ld := [], lst := [], obj := [], q := [], raw := [] }
noncomputable def warrantorref27_Open.an : Ann := .nil
noncomputable abbrev warrantorref27_Open.c : Code := Tryz.f67.body.getD .skip
noncomputable def warrantorref27_Open.J (call : Cl) (n : Nat) : Jn (AEnd × H) := realJ Tryz.prog warrantorref27_Open.A call Tryz.f67 warrantorref27_Open.an warrantorref27_Open.c n
abbrev warrantorref27_Open.F (call : Cl) (n : Nat) (J : Jn (AEnd × H)) : Prop := JFix Tryz.prog warrantorref27_Open.A call Tryz.f67 warrantorref27_Open.an warrantorref27_Open.c n J
def warrantorref27_Open.f (J : Jn (AEnd × H)) (x0 : AV) (h : H) : Option (AEnd × H) := J [] [] ⟨[(0, x0)], [], [], h⟩
theorem warrantorref27_Open.f_eq {call : Cl} {n : Nat} {J : Jn (AEnd × H)} (hJ : warrantorref27_Open.F call n J) (x0 : AV) (h : H) : warrantorref27_Open.f J x0 h =
  (mkRows 1 [.int .u8 0] 0 []).bind fun v1 =>
  (apSlice 1 1 true false h v1 x0).bind fun v2 =>
  (mkAgg [.list [] .cap, .int .i64 0, .int .i64 0] [(0, 1, AV.copy v2)]).bind fun v3 =>
  (bx h v3).bind fun p4 =>
  (call n_warrantorref02_Reader_Text [AV.canon p4.1, AV.canon (.int .i64 1048576)] p4.2).bind fun p5 => retOr p5.1 (fun r6p => some (AEnd.pan r6p, p5.2)) fun r6 =>
  (nilOk p4.1).bind fun v7 =>
  (fAddr 1 v7).bind fun v8 =>
  (ldCell p5.2 v8).bind fun v9 =>
  (call n_warrantorref02_Reader_Word [AV.canon p4.1] p5.2).bind fun p10 => retOr p10.1 (fun r11p => some (AEnd.pan r11p, p10.2)) fun r11 =>
  (nilOk p4.1).bind fun v12 =>
  (fAddr 2 v12).bind fun v13 =>
  (ldCell p10.2 v13).bind fun v14 =>
  (bin .neq v14 (.int .i64 0)).bind fun v15 =>
  condV v15 (
    (nilOk p4.1).bind fun v16 =>
    (fAddr 2 v16).bind fun v17 =>
    (ldCell p10.2 v17).bind fun v18 =>
    some (AEnd.ret (.tuple [(.list [] .cap), (.int .i64 0), (AV.copy v18)]), p10.2)) (
    (slSlice 1 x0 none (some v9) none).bind fun v19 =>
    (call n_warrantorref03_Sum [AV.canon v19] p10.2).bind fun p20 => retOr p20.1 (fun r21p => some (AEnd.pan r21p, p20.2)) fun r21 =>
    (bin .neq r21 r11).bind fun v22 =>
    condV v22 (
      some (AEnd.ret (.tuple [(.list [] .cap), (.int .i64 0), (.int .i64 42)]), p20.2)) (
      (strBytes r6).bind fun v23 =>
      (nilOk p4.1).bind fun v24 =>
      (fAddr 1 v24).bind fun v25 =>
      (ldCell p20.2 v25).bind fun v26 =>
      some (AEnd.ret (.tuple [v23, (AV.copy v26), (.int .i64 0)]), p20.2))) := (hJ _ _ _ (by kernel_rfl)).trans (by kernel_rfl)
/-! ### warrantor/warrantorref02.Text: function 68 -/
noncomputable def warrantorref02_Text.A : FAnn := { nv := 2, mv := [(1, 4)], ld := [], lst := [], obj := [], q := [], raw := [] }
noncomputable def warrantorref02_Text.an : Ann := .nil
noncomputable abbrev warrantorref02_Text.c : Code := Tryz.f68.body.getD .skip
noncomputable def warrantorref02_Text.J (call : Cl) (n : Nat) : Jn (AEnd × H) := realJ Tryz.prog warrantorref02_Text.A call Tryz.f68 warrantorref02_Text.an warrantorref02_Text.c n
abbrev warrantorref02_Text.F (call : Cl) (n : Nat) (J : Jn (AEnd × H)) : Prop := JFix Tryz.prog warrantorref02_Text.A call Tryz.f68 warrantorref02_Text.an warrantorref02_Text.c n J
def warrantorref02_Text.f (J : Jn (AEnd × H)) (x0 : AV) (h : H) : Option (AEnd × H) := J [] [] ⟨[(0, x0)], [], [], h⟩
theorem warrantorref02_Text.f_eq {call : Cl} {n : Nat} {J : Jn (AEnd × H)} (hJ : warrantorref02_Text.F call n J) (x0 : AV) (h : H) : warrantorref02_Text.f J x0 h =
  (lnStr x0).bind fun v1 =>
  (cvInt .u64 v1).bind fun v2 =>
  (call n_warrantorref01_Put [AV.canon v2] h).bind fun p3 => retOr p3.1 (fun r4p => some (AEnd.pan r4p, p3.2)) fun r4 =>
  (strBytes x0).bind fun v5 =>
  (apSlice 1 1 true true p3.2 r4 v5).bind fun v6 =>
  some (AEnd.ret v6, p3.2) := (hJ _ _ _ (by kernel_rfl)).trans (by kernel_rfl)
/-! ### warrantor/warrantorref02.Word: function 69 -/
noncomputable def warrantorref02_Word.A : FAnn := { nv := 2, mv := [(1, 11)], ld := [], lst := [], obj := [], q := [], raw := [] }
noncomputable def warrantorref02_Word.an : Ann := .nil
noncomputable abbrev warrantorref02_Word.c : Code := Tryz.f69.body.getD .skip
noncomputable def warrantorref02_Word.J (call : Cl) (n : Nat) : Jn (AEnd × H) := realJ Tryz.prog warrantorref02_Word.A call Tryz.f69 warrantorref02_Word.an warrantorref02_Word.c n
abbrev warrantorref02_Word.F (call : Cl) (n : Nat) (J : Jn (AEnd × H)) : Prop := JFix Tryz.prog warrantorref02_Word.A call Tryz.f69 warrantorref02_Word.an warrantorref02_Word.c n J
def warrantorref02_Word.f (J : Jn (AEnd × H)) (x0 : AV) (h : H) : Option (AEnd × H) := J [] [] ⟨[(0, x0)], [], [], h⟩
theorem warrantorref02_Word.f_eq {call : Cl} {n : Nat} {J : Jn (AEnd × H)} (hJ : warrantorref02_Word.F call n J) (x0 : AV) (h : H) : warrantorref02_Word.f J x0 h =
  (bin .rem x0 (.int .u32 256)).bind fun v1 =>
  (cvInt .u8 v1).bind fun v2 =>
  (bin .quo x0 (.int .u32 256)).bind fun v3 =>
  (bin .rem v3 (.int .u32 256)).bind fun v4 =>
  (cvInt .u8 v4).bind fun v5 =>
  (bin .quo x0 (.int .u32 65536)).bind fun v6 =>
  (bin .rem v6 (.int .u32 256)).bind fun v7 =>
  (cvInt .u8 v7).bind fun v8 =>
  (bin .quo x0 (.int .u32 16777216)).bind fun v9 =>
  (cvInt .u8 v9).bind fun v10 =>
  (mkRows 1 [.int .u8 0] 4 [(0, v2), (1, v5), (2, v8), (3, v10)]).bind fun v11 =>
  some (AEnd.ret (AV.copy v11), h) := (hJ _ _ _ (by kernel_rfl)).trans (by kernel_rfl)
/-! ### warrantor/warrantorref03.Sum: function 70 -/
noncomputable def warrantorref03_Sum.A : FAnn := { nv := 2, mv := [(1, 0)], ld := [], lst := [], obj := [], q := [], raw := [] }
noncomputable def warrantorref03_Sum.an : Ann := .nil
noncomputable abbrev warrantorref03_Sum.c : Code := Tryz.f70.body.getD .skip
noncomputable def warrantorref03_Sum.J (call : Cl) (n : Nat) : Jn (AEnd × H) := realJ Tryz.prog warrantorref03_Sum.A call Tryz.f70 warrantorref03_Sum.an warrantorref03_Sum.c n
abbrev warrantorref03_Sum.F (call : Cl) (n : Nat) (J : Jn (AEnd × H)) : Prop := JFix Tryz.prog warrantorref03_Sum.A call Tryz.f70 warrantorref03_Sum.an warrantorref03_Sum.c n J
def warrantorref03_Sum.f (J : Jn (AEnd × H)) (x0 : AV) (h : H) : Option (AEnd × H) := J [] [] ⟨[(0, x0)], [], [], h⟩
theorem warrantorref03_Sum.f_eq {call : Cl} {n : Nat} {J : Jn (AEnd × H)} (hJ : warrantorref03_Sum.F call n J) (x0 : AV) (h : H) : warrantorref03_Sum.f J x0 h =
  (call n_warrantorref03_More [AV.canon (.int .u32 0), AV.canon x0] h).bind fun p1 => retOr p1.1 (fun r2p => some (AEnd.pan r2p, p1.2)) fun r2 =>
  some (AEnd.ret r2, p1.2) := (hJ _ _ _ (by kernel_rfl)).trans (by kernel_rfl)
/-! ### (*warrantor/warrantorref02.Reader).Count: function 71 -/
noncomputable def warrantorref02_Reader_Count.A : FAnn := { nv := 7, mv := [(5, 4), (6, 1), (7, 0), (9, 0)], ld := [], lst := [], obj := [], q := [], raw := [] }
noncomputable def warrantorref02_Reader_Count.an : Ann := .mk none .nil (.mk none .nil (.mk none .nil (.mk none .nil (.mk none (.mk none .nil (.mk (some [(0, 0), (5, 0), (6, 255), (25, 0)]) .nil .nil)) .nil))))
noncomputable abbrev warrantorref02_Reader_Count.c : Code := Tryz.f71.body.getD .skip
noncomputable def warrantorref02_Reader_Count.J (call : Cl) (n : Nat) : Jn (AEnd × H) := realJ Tryz.prog warrantorref02_Reader_Count.A call Tryz.f71 warrantorref02_Reader_Count.an warrantorref02_Reader_Count.c n
abbrev warrantorref02_Reader_Count.F (call : Cl) (n : Nat) (J : Jn (AEnd × H)) : Prop := JFix Tryz.prog warrantorref02_Reader_Count.A call Tryz.f71 warrantorref02_Reader_Count.an warrantorref02_Reader_Count.c n J
def warrantorref02_Reader_Count.f (J : Jn (AEnd × H)) (x0 x1 : AV) (h : H) : Option (AEnd × H) := J [] [] ⟨[(0, x0), (1, x1)], [], [], h⟩
def warrantorref02_Reader_Count.j0 (J : Jn (AEnd × H)) (x0 x5 x6 x25 : AV) (h : H) : Option (AEnd × H) := J [1, 1, 1, 1, 0, 1] [] ⟨[(0, x0), (5, x5), (6, x6), (25, x25)], [(0, 0), (5, 0), (6, 255), (25, 0)], [], h⟩
theorem warrantorref02_Reader_Count.f_eq {call : Cl} {n : Nat} {J : Jn (AEnd × H)} (hJ : warrantorref02_Reader_Count.F call n J) (x0 x1 : AV) (h : H) : warrantorref02_Reader_Count.f J x0 x1 h =
  (nilOk x0).bind fun v1 =>
  (fAddr 1 v1).bind fun v2 =>
  (ldCell h v2).bind fun v3 =>
  (call n_warrantorref02_Reader_U [AV.canon x0] h).bind fun p4 => retOr p4.1 (fun r5p => some (AEnd.pan r5p, p4.2)) fun r5 =>
  (nilOk x0).bind fun v6 =>
  (fAddr 2 v6).bind fun v7 =>
  (ldCell p4.2 v7).bind fun v8 =>
  (bin .neq v8 (.int .i64 0)).bind fun v9 =>
  condV v9 (
    some (AEnd.ret (.int .i64 0), p4.2)) (
    (bin .lss x1 (.int .i64 0)).bind fun v10 =>
    condV v10 (
      warrantorref02_Reader_Count.j0 J  x0 v3 r5 (.bool true) p4.2) (
      (cvInt .u64 x1).bind fun v11 =>
      (bin .gtr r5 v11).bind fun v12 =>
      warrantorref02_Reader_Count.j0 J  x0 v3 r5 v12 p4.2)) := (hJ _ _ _ (by kernel_rfl)).trans (by kernel_rfl)
theorem warrantorref02_Reader_Count.j0_eq {call : Cl} {n : Nat} {J : Jn (AEnd × H)} (hJ : warrantorref02_Reader_Count.F call n J) (x0 x5 x6 x25 : AV) (h : H) : warrantorref02_Reader_Count.j0 J  x0 x5 x6 x25 h =
  condV x25 (
    (nilOk x0).bind fun v13 =>
    (fAddr 1 v13).bind fun v14 =>
    (stN 1 h v14 (AV.copy x5)).bind fun p15 =>
    (call n_warrantorref02_Reader_Fail [AV.canon x0, AV.canon (.int .i64 3)] p15.2).bind fun p16 => retOr p16.1 (fun r17p => some (AEnd.pan r17p, p16.2)) fun r17 =>
    some (AEnd.ret (.int .i64 0), p16.2)) (
    (cvInt .i64 x6).bind fun v18 =>
    some (AEnd.ret v18, h)) := (hJ _ _ _ (by kernel_rfl)).trans (by kernel_rfl)
/-! ### warrantor/warrantorref27.change: function 72 -/
noncomputable def warrantorref27_change.A : FAnn := { nv := 5, mv := [(15, 0)], ld := [], lst := [], obj := [], q := [], raw := [] }
noncomputable def warrantorref27_change.an : Ann := .mk none .nil (.mk none .nil (.mk none .nil (.mk none (.mk none .nil (.mk (some [(0, 0), (2, 0), (3, 0), (19, 0)]) .nil .nil)) (.mk (some [(0, 0), (2, 0), (3, 0)]) .nil (.mk (some [(0, 0), (2, 0), (3, 0)]) (.mk none .nil (.mk (some [(0, 0), (2, 0), (3, 0), (59, 0)]) .nil .nil)) .nil)))))
noncomputable abbrev warrantorref27_change.c : Code := Tryz.f72.body.getD .skip
noncomputable def warrantorref27_change.J (call : Cl) (n : Nat) : Jn (AEnd × H) := realJ Tryz.prog warrantorref27_change.A call Tryz.f72 warrantorref27_change.an warrantorref27_change.c n
abbrev warrantorref27_change.F (call : Cl) (n : Nat) (J : Jn (AEnd × H)) : Prop := JFix Tryz.prog warrantorref27_change.A call Tryz.f72 warrantorref27_change.an warrantorref27_change.c n J
def warrantorref27_change.f (J : Jn (AEnd × H)) (x0 : AV) (h : H) : Option (AEnd × H) := J [] [] ⟨[(0, x0)], [], [], h⟩
def warrantorref27_change.j1 (J : Jn (AEnd × H)) (x0 x2 x3 x19 : AV) (h : H) : Option (AEnd × H) := J [1, 1, 1, 0, 1] [] ⟨[(0, x0), (2, x2), (3, x3), (19, x19)], [(0, 0), (2, 0), (3, 0), (19, 0)], [], h⟩
def warrantorref27_change.j0 (J : Jn (AEnd × H)) (x0 x2 x3 : AV) (h : H) : Option (AEnd × H) := J [1, 1, 1, 1] [] ⟨[(0, x0), (2, x2), (3, x3)], [(0, 0), (2, 0), (3, 0)], [], h⟩
def warrantorref27_change.j2 (J : Jn (AEnd × H)) (x0 x2 x3 : AV) (h : H) : Option (AEnd × H) := J [1, 1, 1, 1, 1] [] ⟨[(0, x0), (2, x2), (3, x3)], [(0, 0), (2, 0), (3, 0)], [], h⟩
def warrantorref27_change.j3 (J : Jn (AEnd × H)) (x0 x2 x3 x59 : AV) (h : H) : Option (AEnd × H) := J [1, 1, 1, 1, 1, 0, 1] [] ⟨[(0, x0), (2, x2), (3, x3), (59, x59)], [(0, 0), (2, 0), (3, 0), (59, 0)], [], h⟩
theorem warrantorref27_change.f_eq {call : Cl} {n : Nat} {J : Jn (AEnd × H)} (hJ : warrantorref27_change.F call n J) (x0 : AV) (h : H) : warrantorref27_change.f J x0 h =
  let h1 : H := h ++ [.arr [.int .i64 0, .int .u64 0, .int .i64 0, .int .i64 0, .str [], .str [], .int .i64 0, .str [], .int .i64 0, .int .i64 0, .str []] false]
  (call n_warrantorref02_Reader_Count [AV.canon x0, AV.canon (.int .i64 1048576)] h1).bind fun p2 => retOr p2.1 (fun r3p => some (AEnd.pan r3p, p2.2)) fun r3 =>
  (mkAgg [.int .i64 0, .int .u64 0, .int .i64 0, .int .i64 0, .str [], .str [], .int .i64 0, .str [], .int .i64 0, .int .i64 0, .str []] [(0, 1, AV.copy r3)]).bind fun v4 =>
  let h5 : H := p2.2 ++ [.arr [.int .i64 0, .int .u64 0, .int .i64 0, .int .i64 0, .str [], .str [], .int .i64 0, .str [], .int .i64 0, .int .i64 0, .str []] false]
  (stN 11 h5 (.ptr p2.2.length 0) v4).bind fun p6 =>
  (call n_warrantorref27_finger [AV.canon x0] p6.2).bind fun p7 => retOr p7.1 (fun r8p => some (AEnd.pan r8p, p7.2)) fun r8 =>
  (fAddr 1 (.ptr p2.2.length 0)).bind fun v9 =>
  (fAddr 0 v9).bind fun v10 =>
  (stN 1 p7.2 v10 r8).bind fun p11 =>
  (fAddr 0 (.ptr p2.2.length 0)).bind fun v12 =>
  (ldCell p11.2 v12).bind fun v13 =>
  (bin .eql v13 (.int .i64 1)).bind fun v14 =>
  condV v14 (
    warrantorref27_change.j1 J  x0 (.ptr h.length 0) (.ptr p2.2.length 0) (.bool true) p11.2) (
    (fAddr 0 (.ptr p2.2.length 0)).bind fun v15 =>
    (ldCell p11.2 v15).bind fun v16 =>
    (bin .eql v16 (.int .i64 5)).bind fun v17 =>
    warrantorref27_change.j1 J  x0 (.ptr h.length 0) (.ptr p2.2.length 0) v17 p11.2) := (hJ _ _ _ (by kernel_rfl)).trans (by kernel_rfl)
theorem warrantorref27_change.j1_eq {call : Cl} {n : Nat} {J : Jn (AEnd × H)} (hJ : warrantorref27_change.F call n J) (x0 x2 x3 x19 : AV) (h : H) : warrantorref27_change.j1 J  x0 x2 x3 x19 h =
  condV x19 (
    (call n_warrantorref02_Reader_Count [AV.canon x0, AV.canon (.int .i64 1048576)] h).bind fun p18 => retOr p18.1 (fun r19p => some (AEnd.pan r19p, p18.2)) fun r19 =>
    (mkAgg [.int .i64 0, .int .i64 0, .str [], .str [], .int .i64 0, .str []] [(0, 1, AV.copy r19)]).bind fun v20 =>
    let h21 : H := p18.2 ++ [.arr [.int .i64 0, .int .i64 0, .str [], .str [], .int .i64 0, .str []] false]
    (stN 6 h21 (.ptr p18.2.length 0) v20).bind fun p22 =>
    (call n_warrantorref02_Reader_Count [AV.canon x0, AV.canon (.int .i64 1048576)] p22.2).bind fun p23 => retOr p23.1 (fun r24p => some (AEnd.pan r24p, p23.2)) fun r24 =>
    (fAddr 1 (.ptr p18.2.length 0)).bind fun v25 =>
    (stN 1 p23.2 v25 r24).bind fun p26 =>
    (call n_warrantorref02_Reader_Text [AV.canon x0, AV.canon (.int .i64 1048576)] p26.2).bind fun p27 => retOr p27.1 (fun r28p => some (AEnd.pan r28p, p27.2)) fun r28 =>
    (fAddr 2 (.ptr p18.2.length 0)).bind fun v29 =>
    (stN 1 p27.2 v29 r28).bind fun p30 =>
    (call n_warrantorref02_Reader_Text [AV.canon x0, AV.canon (.int .i64 1048576)] p30.2).bind fun p31 => retOr p31.1 (fun r32p => some (AEnd.pan r32p, p31.2)) fun r32 =>
    (fAddr 3 (.ptr p18.2.length 0)).bind fun v33 =>
    (stN 1 p31.2 v33 r32).bind fun p34 =>
    (call n_warrantorref02_Reader_Count [AV.canon x0, AV.canon (.int .i64 1048576)] p34.2).bind fun p35 => retOr p35.1 (fun r36p => some (AEnd.pan r36p, p35.2)) fun r36 =>
    (fAddr 4 (.ptr p18.2.length 0)).bind fun v37 =>
    (stN 1 p35.2 v37 r36).bind fun p38 =>
    (call n_warrantorref02_Reader_Text [AV.canon x0, AV.canon (.int .i64 1048576)] p38.2).bind fun p39 => retOr p39.1 (fun r40p => some (AEnd.pan r40p, p39.2)) fun r40 =>
    (fAddr 5 (.ptr p18.2.length 0)).bind fun v41 =>
    (stN 1 p39.2 v41 r40).bind fun p42 =>
    (ldAgg 6 p42.2 (.ptr p18.2.length 0)).bind fun v43 =>
    (fAddr 1 x3).bind fun v44 =>
    (fAddr 1 v44).bind fun v45 =>
    (stN 6 p42.2 v45 (AV.copy v43)).bind fun p46 =>
    warrantorref27_change.j0 J  x0 x2 x3 p46.2) (
    warrantorref27_change.j0 J  x0 x2 x3 h) := (hJ _ _ _ (by kernel_rfl)).trans (by kernel_rfl)
theorem warrantorref27_change.j0_eq {call : Cl} {n : Nat} {J : Jn (AEnd × H)} (hJ : warrantorref27_change.F call n J) (x0 x2 x3 : AV) (h : H) : warrantorref27_change.j0 J  x0 x2 x3 h =
  (fAddr 0 x3).bind fun v47 =>
  (ldCell h v47).bind fun v48 =>
  (bin .eql v48 (.int .i64 5)).bind fun v49 =>
  condV v49 (
    (call n_warrantorref02_Reader_Count [AV.canon x0, AV.canon (.int .i64 1048576)] h).bind fun p50 => retOr p50.1 (fun r51p => some (AEnd.pan r51p, p50.2)) fun r51 =>
    (fAddr 1 x3).bind fun v52 =>
    (fAddr 7 v52).bind fun v53 =>
    (stN 1 p50.2 v53 r51).bind fun p54 =>
    (call n_warrantorref02_Reader_Count [AV.canon x0, AV.canon (.int .i64 1048576)] p54.2).bind fun p55 => retOr p55.1 (fun r56p => some (AEnd.pan r56p, p55.2)) fun r56 =>
    (fAddr 1 x3).bind fun v57 =>
    (fAddr 8 v57).bind fun v58 =>
    (stN 1 p55.2 v58 r56).bind fun p59 =>
    warrantorref27_change.j2 J  x0 x2 x3 p59.2) (
    warrantorref27_change.j2 J  x0 x2 x3 h) := (hJ _ _ _ (by kernel_rfl)).trans (by kernel_rfl)
theorem warrantorref27_change.j2_eq {call : Cl} {n : Nat} {J : Jn (AEnd × H)} (hJ : warrantorref27_change.F call n J) (x0 x2 x3 : AV) (h : H) : warrantorref27_change.j2 J  x0 x2 x3 h =
  (fAddr 0 x3).bind fun v60 =>
  (ldCell h v60).bind fun v61 =>
  (bin .eql v61 (.int .i64 2)).bind fun v62 =>
  condV v62 (
    warrantorref27_change.j3 J  x0 x2 x3 (.bool true) h) (
    (fAddr 0 x3).bind fun v63 =>
    (ldCell h v63).bind fun v64 =>
    (bin .eql v64 (.int .i64 5)).bind fun v65 =>
    warrantorref27_change.j3 J  x0 x2 x3 v65 h) := (hJ _ _ _ (by kernel_rfl)).trans (by kernel_rfl)
theorem warrantorref27_change.j3_eq {call : Cl} {n : Nat} {J : Jn (AEnd × H)} (hJ : warrantorref27_change.F call n J) (x0 x2 x3 x59 : AV) (h : H) : warrantorref27_change.j3 J  x0 x2 x3 x59 h =
  condV x59 (
    (call n_warrantorref02_Reader_Text [AV.canon x0, AV.canon (.int .i64 1048576)] h).bind fun p66 => retOr p66.1 (fun r67p => some (AEnd.pan r67p, p66.2)) fun r67 =>
    (fAddr 1 x3).bind fun v68 =>
    (fAddr 9 v68).bind fun v69 =>
    (stN 1 p66.2 v69 r67).bind fun p70 =>
    (ldAgg 11 p70.2 x3).bind fun v71 =>
    (stN 11 p70.2 x2 (AV.copy v71)).bind fun p72 =>
    (resN [(ldAgg 11 p72.2 x2).map AV.copy]).map fun v => (AEnd.ret v, p72.2)) (
    (ldAgg 11 h x3).bind fun v73 =>
    (stN 11 h x2 (AV.copy v73)).bind fun p74 =>
    (resN [(ldAgg 11 p74.2 x2).map AV.copy]).map fun v => (AEnd.ret v, p74.2)) := (hJ _ _ _ (by kernel_rfl)).trans (by kernel_rfl)
/-! ### (*warrantor/warrantorref02.Reader).End: function 73 -/
noncomputable def warrantorref02_Reader_End.A : FAnn := { nv := 2, mv := [(1, 0)], ld := [], lst := [], obj := [], q := [], raw := [] }
noncomputable def warrantorref02_Reader_End.an : Ann := .mk none .nil (.mk (some [(0, 0), (18, 0)]) .nil .nil)
noncomputable abbrev warrantorref02_Reader_End.c : Code := Tryz.f73.body.getD .skip
noncomputable def warrantorref02_Reader_End.J (call : Cl) (n : Nat) : Jn (AEnd × H) := realJ Tryz.prog warrantorref02_Reader_End.A call Tryz.f73 warrantorref02_Reader_End.an warrantorref02_Reader_End.c n
abbrev warrantorref02_Reader_End.F (call : Cl) (n : Nat) (J : Jn (AEnd × H)) : Prop := JFix Tryz.prog warrantorref02_Reader_End.A call Tryz.f73 warrantorref02_Reader_End.an warrantorref02_Reader_End.c n J
def warrantorref02_Reader_End.f (J : Jn (AEnd × H)) (x0 : AV) (h : H) : Option (AEnd × H) := J [] [] ⟨[(0, x0)], [], [], h⟩
def warrantorref02_Reader_End.j0 (J : Jn (AEnd × H)) (x0 x18 : AV) (h : H) : Option (AEnd × H) := J [1] [] ⟨[(0, x0), (18, x18)], [(0, 0), (18, 0)], [], h⟩
theorem warrantorref02_Reader_End.f_eq {call : Cl} {n : Nat} {J : Jn (AEnd × H)} (hJ : warrantorref02_Reader_End.F call n J) (x0 : AV) (h : H) : warrantorref02_Reader_End.f J x0 h =
  (nilOk x0).bind fun v1 =>
  (fAddr 2 v1).bind fun v2 =>
  (ldCell h v2).bind fun v3 =>
  (bin .eql v3 (.int .i64 0)).bind fun v4 =>
  condV v4 (
    (nilOk x0).bind fun v5 =>
    (fAddr 1 v5).bind fun v6 =>
    (ldCell h v6).bind fun v7 =>
    (nilOk x0).bind fun v8 =>
    (fAddr 0 v8).bind fun v9 =>
    (ldCell h v9).bind fun v10 =>
    (lnSl v10).bind fun v11 =>
    (bin .lss v7 v11).bind fun v12 =>
    warrantorref02_Reader_End.j0 J  x0 v12 h) (
    warrantorref02_Reader_End.j0 J  x0 (.bool false) h) := (hJ _ _ _ (by kernel_rfl)).trans (by kernel_rfl)
theorem warrantorref02_Reader_End.j0_eq {call : Cl} {n : Nat} {J : Jn (AEnd × H)} (hJ : warrantorref02_Reader_End.F call n J) (x0 x18 : AV) (h : H) : warrantorref02_Reader_End.j0 J  x0 x18 h =
  condV x18 (
    (nilOk x0).bind fun v13 =>
    (fAddr 2 v13).bind fun v14 =>
    (stN 1 h v14 (.int .i64 3)).bind fun p15 =>
    some (AEnd.ret (.tuple []), p15.2)) (
    some (AEnd.ret (.tuple []), h)) := (hJ _ _ _ (by kernel_rfl)).trans (by kernel_rfl)
/-! ### warrantor/warrantorref02.Num: function 74 -/
noncomputable def warrantorref02_Num.A : FAnn := { nv := 2, mv := [(1, 0)], ld := [], lst := [], obj := [], q := [], raw := [] }
noncomputable def warrantorref02_Num.an : Ann := .nil
noncomputable abbrev warrantorref02_Num.c : Code := Tryz.f74.body.getD .skip
noncomputable def warrantorref02_Num.J (call : Cl) (n : Nat) : Jn (AEnd × H) := realJ Tryz.prog warrantorref02_Num.A call Tryz.f74 warrantorref02_Num.an warrantorref02_Num.c n
abbrev warrantorref02_Num.F (call : Cl) (n : Nat) (J : Jn (AEnd × H)) : Prop := JFix Tryz.prog warrantorref02_Num.A call Tryz.f74 warrantorref02_Num.an warrantorref02_Num.c n J
def warrantorref02_Num.f (J : Jn (AEnd × H)) (x0 : AV) (h : H) : Option (AEnd × H) := J [] [] ⟨[(0, x0)], [], [], h⟩
theorem warrantorref02_Num.f_eq {call : Cl} {n : Nat} {J : Jn (AEnd × H)} (hJ : warrantorref02_Num.F call n J) (x0 : AV) (h : H) : warrantorref02_Num.f J x0 h =
  (cvInt .u64 x0).bind fun v1 =>
  (call n_warrantorref01_Put [AV.canon v1] h).bind fun p2 => retOr p2.1 (fun r3p => some (AEnd.pan r3p, p2.2)) fun r3 =>
  some (AEnd.ret r3, p2.2) := (hJ _ _ _ (by kernel_rfl)).trans (by kernel_rfl)
/-! ### warrantor/warrantorref27.alarm: function 75 -/
noncomputable def warrantorref27_alarm.A : FAnn := { nv := 4, mv := [(2, 0), (3, 0)], ld := [], lst := [], obj := [], q := [68, 74], raw := [] }
noncomputable def warrantorref27_alarm.an : Ann := .nil
noncomputable abbrev warrantorref27_alarm.c : Code := Tryz.f75.body.getD .skip
noncomputable def warrantorref27_alarm.J (call : Cl) (n : Nat) : Jn (AEnd × H) := realJ Tryz.prog warrantorref27_alarm.A call Tryz.f75 warrantorref27_alarm.an warrantorref27_alarm.c n
abbrev warrantorref27_alarm.F (call : Cl) (n : Nat) (J : Jn (AEnd × H)) : Prop := JFix Tryz.prog warrantorref27_alarm.A call Tryz.f75 warrantorref27_alarm.an warrantorref27_alarm.c n J
def warrantorref27_alarm.f (J : Jn (AEnd × H)) (x0 : AV) (h : H) : Option (AEnd × H) := J [] [] ⟨[(0, x0)], [], [], h⟩
theorem warrantorref27_alarm.f_eq {call : Cl} {n : Nat} {J : Jn (AEnd × H)} (hJ : warrantorref27_alarm.F call n J) (x0 : AV) (h : H) : warrantorref27_alarm.f J x0 h =
  (bx h (AV.copy x0)).bind fun p1 =>
  (fAddr 0 p1.1).bind fun v2 =>
  (ldCell p1.2 v2).bind fun v3 =>
  (call n_warrantorref02_Num [AV.canon v3] p1.2).bind fun p4 => retOr p4.1 (fun _ => none) fun r5 =>
  (fAddr 1 p1.1).bind fun v6 =>
  (ldCell p4.2 v6).bind fun v7 =>
  (call n_warrantorref02_Num [AV.canon v7] p4.2).bind fun p8 => retOr p8.1 (fun _ => none) fun r9 =>
  (apSlice 1 1 true true p8.2 r5 r9).bind fun v10 =>
  (fAddr 2 p1.1).bind fun v11 =>
  (ldCell p8.2 v11).bind fun v12 =>
  (call n_warrantorref02_Text [AV.canon v12] p8.2).bind fun p13 => retOr p13.1 (fun _ => none) fun r14 =>
  (apSlice 1 1 true true p13.2 v10 r14).bind fun v15 =>
  (fAddr 3 p1.1).bind fun v16 =>
  (ldCell p13.2 v16).bind fun v17 =>
  (call n_warrantorref02_Text [AV.canon v17] p13.2).bind fun p18 => retOr p18.1 (fun _ => none) fun r19 =>
  (apSlice 1 1 true true p18.2 v15 r19).bind fun v20 =>
  (fAddr 4 p1.1).bind fun v21 =>
  (ldCell p18.2 v21).bind fun v22 =>
  (call n_warrantorref02_Num [AV.canon v22] p18.2).bind fun p23 => retOr p23.1 (fun _ => none) fun r24 =>
  (apSlice 1 1 true true p23.2 v20 r24).bind fun v25 =>
  (fAddr 5 p1.1).bind fun v26 =>
  (ldCell p23.2 v26).bind fun v27 =>
  (call n_warrantorref02_Text [AV.canon v27] p23.2).bind fun p28 => retOr p28.1 (fun _ => none) fun r29 =>
  (apSlice 1 1 true true p28.2 v25 r29).bind fun v30 =>
  some (AEnd.ret v30, p28.2) := (hJ _ _ _ (by kernel_rfl)).trans (by kernel_rfl)
/-! ### warrantor/warrantorlaw29.One: function 76 -/
noncomputable def warrantorlaw29_One.A : FAnn := { nv := 2, mv := [(1, 0)], ld := [], lst := [], obj := [], q := [], raw := [] }
noncomputable def warrantorlaw29_One.an : Ann := .nil
noncomputable abbrev warrantorlaw29_One.c : Code := Tryz.f76.body.getD .skip
noncomputable def warrantorlaw29_One.J (call : Cl) (n : Nat) : Jn (AEnd × H) := realJ Tryz.prog warrantorlaw29_One.A call Tryz.f76 warrantorlaw29_One.an warrantorlaw29_One.c n
abbrev warrantorlaw29_One.F (call : Cl) (n : Nat) (J : Jn (AEnd × H)) : Prop := JFix Tryz.prog warrantorlaw29_One.A call Tryz.f76 warrantorlaw29_One.an warrantorlaw29_One.c n J
def warrantorlaw29_One.f (J : Jn (AEnd × H)) (x0 : AV) (h : H) : Option (AEnd × H) := J [] [] ⟨[(0, x0)], [], [], h⟩
theorem warrantorlaw29_One.f_eq {call : Cl} {n : Nat} {J : Jn (AEnd × H)} (hJ : warrantorlaw29_One.F call n J) (x0 : AV) (h : H) : warrantorlaw29_One.f J x0 h =
  let h1 : H := h ++ [.arr [.int .u64 0, .int .i64 0, .int .i64 0, .str [], .str [], .int .i64 0, .str [], .int .i64 0, .int .i64 0, .str []] false]
  (mkAgg [.int .i64 0, .int .i64 0, .str [], .str [], .int .i64 0, .str []] [(0, 1, AV.copy (.int .i64 1)), (1, 1, AV.copy (.int .i64 1)), (2, 1, AV.copy (.str [102])), (3, 1, AV.copy (.str [102])), (4, 1, AV.copy (.int .i64 1)), (5, 1, AV.copy (.str [120]))]).bind fun v2 =>
  (mkAgg [.int .u64 0, .int .i64 0, .int .i64 0, .str [], .str [], .int .i64 0, .str [], .int .i64 0, .int .i64 0, .str []] [(0, 1, AV.copy x0), (1, 6, AV.copy v2), (7, 1, AV.copy (.int .i64 2)), (8, 1, AV.copy (.int .i64 1))]).bind fun v3 =>
  (stN 10 h1 (.ptr h.length 0) v3).bind fun p4 =>
  (resN [(ldAgg 10 p4.2 (.ptr h.length 0)).map AV.copy]).map fun v => (AEnd.ret v, p4.2) := (hJ _ _ _ (by kernel_rfl)).trans (by kernel_rfl)
/-! ### (*warrantor/cur.Pen).U: function 77 -/
noncomputable def cur_Pen_U.A : FAnn := { nv := 4, mv := [(0, 0), (0, 1)], ld := [], lst := [], obj := [], q := [], raw := [] }
noncomputable def cur_Pen_U.an : Ann := .nil
noncomputable abbrev cur_Pen_U.c : Code := Tryz.f77.body.getD .skip
noncomputable def cur_Pen_U.J (call : Cl) (n : Nat) : Jn (AEnd × H) := realJ Tryz.prog cur_Pen_U.A call Tryz.f77 cur_Pen_U.an cur_Pen_U.c n
abbrev cur_Pen_U.F (call : Cl) (n : Nat) (J : Jn (AEnd × H)) : Prop := JFix Tryz.prog cur_Pen_U.A call Tryz.f77 cur_Pen_U.an cur_Pen_U.c n J
def cur_Pen_U.f (J : Jn (AEnd × H)) (x0 x1 : AV) (h : H) : Option (AEnd × H) := J [] [] ⟨[(0, x0), (1, x1)], [], [], h⟩
theorem cur_Pen_U.f_eq {call : Cl} {n : Nat} {J : Jn (AEnd × H)} (hJ : cur_Pen_U.F call n J) (x0 x1 : AV) (h : H) : cur_Pen_U.f J x0 x1 h =
  (call n_leb_Put [AV.canon x1] h).bind fun p1 => retOr p1.1 (fun r2p => some (AEnd.pan r2p, p1.2)) fun r2 =>
  (call n_cur_Pen_put [AV.canon x0, AV.canon r2] p1.2).bind fun p3 => retOr p3.1 (fun r4p => some (AEnd.pan r4p, p3.2)) fun r4 =>
  some (AEnd.ret (.tuple []), p3.2) := (hJ _ _ _ (by kernel_rfl)).trans (by kernel_rfl)
/-! ### slices.Equal[[]warrantor/api.Entry,warrantor/api.Entry]: function 78 -/
noncomputable def slices_Equal_api_Entry_api_Entry.A : FAnn := { nv := 6, mv := [(6, 5)], ld := [], lst := [], obj := [], q := [], raw := [] }
noncomputable def slices_Equal_api_Entry_api_Entry.an : Ann := .mk none .nil (.mk none .nil (.mk none (.mk none .nil (.mk none (.mk none (.mk (some [(0, 0), (1, 0), (12, 0), (13, 0)]) .nil .nil) .nil) .nil)) .nil))
noncomputable abbrev slices_Equal_api_Entry_api_Entry.c : Code := Tryz.f78.body.getD .skip
noncomputable def slices_Equal_api_Entry_api_Entry.J (call : Cl) (n : Nat) : Jn (AEnd × H) := realJ Tryz.prog slices_Equal_api_Entry_api_Entry.A call Tryz.f78 slices_Equal_api_Entry_api_Entry.an slices_Equal_api_Entry_api_Entry.c n
abbrev slices_Equal_api_Entry_api_Entry.F (call : Cl) (n : Nat) (J : Jn (AEnd × H)) : Prop := JFix Tryz.prog slices_Equal_api_Entry_api_Entry.A call Tryz.f78 slices_Equal_api_Entry_api_Entry.an slices_Equal_api_Entry_api_Entry.c n J
def slices_Equal_api_Entry_api_Entry.f (J : Jn (AEnd × H)) (x0 x1 : AV) (h : H) : Option (AEnd × H) := J [] [] ⟨[(0, x0), (1, x1)], [], [], h⟩
def slices_Equal_api_Entry_api_Entry.l0 (J : Jn (AEnd × H)) (m0 : Nat) (x0 x1 x12 x13 : AV) (h : H) : Option (AEnd × H) := J [1, 1, 0, 1, 0] [m0] ⟨[(0, x0), (1, x1), (12, x12), (13, x13)], [(0, 0), (1, 0), (12, 0), (13, 0)], [], h⟩
theorem slices_Equal_api_Entry_api_Entry.f_eq {call : Cl} {n : Nat} {J : Jn (AEnd × H)} (hJ : slices_Equal_api_Entry_api_Entry.F call n J) (x0 x1 : AV) (h : H) : slices_Equal_api_Entry_api_Entry.f J x0 x1 h =
  (lnSl x0).bind fun v1 =>
  (lnSl x1).bind fun v2 =>
  (bin .neq v1 v2).bind fun v3 =>
  condV v3 (
    some (AEnd.ret (.bool false), h)) (
    (lnSl x0).bind fun v4 =>
    slices_Equal_api_Entry_api_Entry.l0 J n x0 x1 v4 (.int .i64 0) h) := (hJ _ _ _ (by kernel_rfl)).trans (by kernel_rfl)
theorem slices_Equal_api_Entry_api_Entry.l0_eq {call : Cl} {n : Nat} {J : Jn (AEnd × H)} (hJ : slices_Equal_api_Entry_api_Entry.F call n J) (m0 : Nat) (x0 x1 x12 x13 : AV) (h : H) : slices_Equal_api_Entry_api_Entry.l0 J (m0 + 1) x0 x1 x12 x13 h =
  (bin .lss x13 x12).bind fun v5 =>
  condV v5 (
    (ixSlice 10 x0 x13).bind fun v6 =>
    (ldAgg 10 h v6).bind fun v7 =>
    (ixSlice 10 x1 x13).bind fun v8 =>
    (ldAgg 10 h v8).bind fun v9 =>
    (eqv true (aeq Tryz.prog 20 t_api_Entry v7 v9)).bind fun v10 =>
    condV v10 (
      some (AEnd.ret (.bool false), h)) (
      (bin .add x13 (.int .i64 1)).bind fun v11 =>
      slices_Equal_api_Entry_api_Entry.l0 J m0 x0 x1 x12 v11 h)) (
    some (AEnd.ret (.bool true), h)) := (hJ _ _ _ (by kernel_rfl)).trans (by kernel_rfl)
/-! ### slices.EqualFunc[[][]warrantor/api.Change,[][]warrantor/api.Change,[]warrantor/api.Change,[]warrantor/api.Change]: function 79 -/
noncomputable def slices_EqualFunc_api_Change_api_Change_api_Change_api_Change.A : FAnn := { nv := 10, mv := [(3, 0), (6, 1), (7, 1), (7, 2)], ld := [], lst := [], obj := [], q := [], raw := [] }
noncomputable def slices_EqualFunc_api_Change_api_Change_api_Change_api_Change.an : Ann := .mk none .nil (.mk none .nil (.mk none (.mk none .nil (.mk none (.mk none (.mk (some [(1, 0), (2, 0), (15, 0), (16, 0), (17, 0)]) .nil .nil) .nil) .nil)) .nil))
noncomputable abbrev slices_EqualFunc_api_Change_api_Change_api_Change_api_Change.c : Code := Tryz.f79.body.getD .skip
noncomputable def slices_EqualFunc_api_Change_api_Change_api_Change_api_Change.J (call : Cl) (n : Nat) : Jn (AEnd × H) := realJ Tryz.prog slices_EqualFunc_api_Change_api_Change_api_Change_api_Change.A call Tryz.f79 slices_EqualFunc_api_Change_api_Change_api_Change_api_Change.an slices_EqualFunc_api_Change_api_Change_api_Change_api_Change.c n
abbrev slices_EqualFunc_api_Change_api_Change_api_Change_api_Change.F (call : Cl) (n : Nat) (J : Jn (AEnd × H)) : Prop := JFix Tryz.prog slices_EqualFunc_api_Change_api_Change_api_Change_api_Change.A call Tryz.f79 slices_EqualFunc_api_Change_api_Change_api_Change_api_Change.an slices_EqualFunc_api_Change_api_Change_api_Change_api_Change.c n J
def slices_EqualFunc_api_Change_api_Change_api_Change_api_Change.f (J : Jn (AEnd × H)) (x0 x1 x2 : AV) (h : H) : Option (AEnd × H) := J [] [] ⟨[(0, x0), (1, x1), (2, x2)], [], [], h⟩
def slices_EqualFunc_api_Change_api_Change_api_Change_api_Change.l0 (J : Jn (AEnd × H)) (m0 : Nat) (x1 x2 x15 x16 x17 : AV) (h : H) : Option (AEnd × H) := J [1, 1, 0, 1, 0] [m0] ⟨[(1, x1), (2, x2), (15, x15), (16, x16), (17, x17)], [(1, 0), (2, 0), (15, 0), (16, 0), (17, 0)], [], h⟩
theorem slices_EqualFunc_api_Change_api_Change_api_Change_api_Change.f_eq {call : Cl} {n : Nat} {J : Jn (AEnd × H)} (hJ : slices_EqualFunc_api_Change_api_Change_api_Change_api_Change.F call n J) (x0 x1 x2 : AV) (h : H) : slices_EqualFunc_api_Change_api_Change_api_Change_api_Change.f J x0 x1 x2 h =
  (lnSl x0).bind fun v1 =>
  (lnSl x1).bind fun v2 =>
  (bin .neq v1 v2).bind fun v3 =>
  condV v3 (
    some (AEnd.ret (.bool false), h)) (
    (lnSl x0).bind fun v4 =>
    slices_EqualFunc_api_Change_api_Change_api_Change_api_Change.l0 J n x1 x2 x0 v4 (.int .i64 0) h) := (hJ _ _ _ (by kernel_rfl)).trans (by kernel_rfl)
theorem slices_EqualFunc_api_Change_api_Change_api_Change_api_Change.l0_eq {call : Cl} {n : Nat} {J : Jn (AEnd × H)} (hJ : slices_EqualFunc_api_Change_api_Change_api_Change_api_Change.F call n J) (m0 : Nat) (x1 x2 x15 x16 x17 : AV) (h : H) : slices_EqualFunc_api_Change_api_Change_api_Change_api_Change.l0 J (m0 + 1) x1 x2 x15 x16 x17 h =
  (bin .lss x17 x16).bind fun v5 =>
  condV v5 (
    (ixSlice 1 x15 x17).bind fun v6 =>
    (ldCell h v6).bind fun v7 =>
    (ixSlice 1 x1 x17).bind fun v8 =>
    (ldCell h v8).bind fun v9 =>
    (callVal call h x2 [AV.canon v7, AV.canon v9]).bind fun p10 => retOr p10.1 (fun r11p => some (AEnd.pan r11p, p10.2)) fun r11 =>
    (unOp .not r11).bind fun v12 =>
    condV v12 (
      some (AEnd.ret (.bool false), p10.2)) (
      (bin .add x17 (.int .i64 1)).bind fun v13 =>
      slices_EqualFunc_api_Change_api_Change_api_Change_api_Change.l0 J m0 x1 x2 x15 x16 v13 p10.2)) (
    some (AEnd.ret (.bool true), h)) := (hJ _ _ _ (by kernel_rfl)).trans (by kernel_rfl)
/-! ### warrantor/warrantorref29.SameEntries: function 80 -/
noncomputable def warrantorref29_SameEntries.A : FAnn := { nv := 6, mv := [(5, 0)], ld := [], lst := [], obj := [], q := [], raw := [] }
noncomputable def warrantorref29_SameEntries.an : Ann := .mk none .nil (.mk none .nil (.mk none (.mk none .nil (.mk none (.mk none (.mk (some [(0, 0), (1, 0), (5, 0)]) .nil .nil) .nil) .nil)) .nil))
noncomputable abbrev warrantorref29_SameEntries.c : Code := Tryz.f80.body.getD .skip
noncomputable def warrantorref29_SameEntries.J (call : Cl) (n : Nat) : Jn (AEnd × H) := realJ Tryz.prog warrantorref29_SameEntries.A call Tryz.f80 warrantorref29_SameEntries.an warrantorref29_SameEntries.c n
abbrev warrantorref29_SameEntries.F (call : Cl) (n : Nat) (J : Jn (AEnd × H)) : Prop := JFix Tryz.prog warrantorref29_SameEntries.A call Tryz.f80 warrantorref29_SameEntries.an warrantorref29_SameEntries.c n J
def warrantorref29_SameEntries.f (J : Jn (AEnd × H)) (x0 x1 : AV) (h : H) : Option (AEnd × H) := J [] [] ⟨[(0, x0), (1, x1)], [], [], h⟩
def warrantorref29_SameEntries.l0 (J : Jn (AEnd × H)) (m0 : Nat) (x0 x1 x5 : AV) (h : H) : Option (AEnd × H) := J [1, 1, 0, 1, 0] [m0] ⟨[(0, x0), (1, x1), (5, x5)], [(0, 0), (1, 0), (5, 0)], [], h⟩
theorem warrantorref29_SameEntries.f_eq {call : Cl} {n : Nat} {J : Jn (AEnd × H)} (hJ : warrantorref29_SameEntries.F call n J) (x0 x1 : AV) (h : H) : warrantorref29_SameEntries.f J x0 x1 h =
  (lnSl x0).bind fun v1 =>
  (lnSl x1).bind fun v2 =>
  (bin .neq v1 v2).bind fun v3 =>
  condV v3 (
    some (AEnd.ret (.bool false), h)) (
    warrantorref29_SameEntries.l0 J n x0 x1 (.int .i64 0) h) := (hJ _ _ _ (by kernel_rfl)).trans (by kernel_rfl)
theorem warrantorref29_SameEntries.l0_eq {call : Cl} {n : Nat} {J : Jn (AEnd × H)} (hJ : warrantorref29_SameEntries.F call n J) (m0 : Nat) (x0 x1 x5 : AV) (h : H) : warrantorref29_SameEntries.l0 J (m0 + 1) x0 x1 x5 h =
  (lnSl x0).bind fun v4 =>
  (bin .lss x5 v4).bind fun v5 =>
  condV v5 (
    (ixSlice 10 x0 x5).bind fun v6 =>
    (ldAgg 10 h v6).bind fun v7 =>
    (ixSlice 10 x1 x5).bind fun v8 =>
    (ldAgg 10 h v8).bind fun v9 =>
    (eqv true (aeq Tryz.prog 20 t_api_Entry v7 v9)).bind fun v10 =>
    condV v10 (
      some (AEnd.ret (.bool false), h)) (
      (bin .add x5 (.int .i64 1)).bind fun v11 =>
      warrantorref29_SameEntries.l0 J m0 x0 x1 v11 h)) (
    some (AEnd.ret (.bool true), h)) := (hJ _ _ _ (by kernel_rfl)).trans (by kernel_rfl)
/-! ### warrantor/warrantorref29.puts: function 82 -/
noncomputable def warrantorref29_puts.A : FAnn := { nv := 5, mv := [(4, 0), (5, 0), (6, 0)], ld := [], lst := [], obj := [], q := [], raw := [] }
noncomputable def warrantorref29_puts.an : Ann := .mk none .nil (.mk none .nil (.mk none (.mk none .nil (.mk none (.mk none (.mk (some [(0, 0), (3, 255), (4, 0)]) .nil .nil) .nil) .nil)) .nil))
noncomputable abbrev warrantorref29_puts.c : Code := Tryz.f82.body.getD .skip
noncomputable def warrantorref29_puts.J (call : Cl) (n : Nat) : Jn (AEnd × H) := realJ Tryz.prog warrantorref29_puts.A call Tryz.f82 warrantorref29_puts.an warrantorref29_puts.c n
abbrev warrantorref29_puts.F (call : Cl) (n : Nat) (J : Jn (AEnd × H)) : Prop := JFix Tryz.prog warrantorref29_puts.A call Tryz.f82 warrantorref29_puts.an warrantorref29_puts.c n J
def warrantorref29_puts.f (J : Jn (AEnd × H)) (x0 : AV) (h : H) : Option (AEnd × H) := J [] [] ⟨[(0, x0)], [], [], h⟩
def warrantorref29_puts.l0 (J : Jn (AEnd × H)) (m0 : Nat) (x0 x3 x4 : AV) (h : H) : Option (AEnd × H) := J [1, 1, 0, 1, 0] [m0] ⟨[(0, x0), (3, x3), (4, x4)], [(0, 0), (3, 255), (4, 0)], [], h⟩
theorem warrantorref29_puts.f_eq {call : Cl} {n : Nat} {J : Jn (AEnd × H)} (hJ : warrantorref29_puts.F call n J) (x0 : AV) (h : H) : warrantorref29_puts.f J x0 h =
  warrantorref29_puts.l0 J n x0 (.list [] .cap) (.int .i64 0) h := (hJ _ _ _ (by kernel_rfl)).trans (by kernel_rfl)
theorem warrantorref29_puts.l0_eq {call : Cl} {n : Nat} {J : Jn (AEnd × H)} (hJ : warrantorref29_puts.F call n J) (m0 : Nat) (x0 x3 x4 : AV) (h : H) : warrantorref29_puts.l0 J (m0 + 1) x0 x3 x4 h =
  (lnSl x0).bind fun v1 =>
  (bin .lss x4 v1).bind fun v2 =>
  condV v2 (
    (ixSlice 10 x0 x4).bind fun v3 =>
    (ldAgg 10 h v3).bind fun v4 =>
    (mkAgg [.int .i64 0, .int .u64 0, .int .i64 0, .int .i64 0, .str [], .str [], .int .i64 0, .str [], .int .i64 0, .int .i64 0, .str []] [(0, 1, AV.copy (.int .i64 5)), (1, 10, AV.copy v4)]).bind fun v5 =>
    (mkRows 11 [.int .i64 0, .int .u64 0, .int .i64 0, .int .i64 0, .str [], .str [], .int .i64 0, .str [], .int .i64 0, .int .i64 0, .str []] 1 [(0, v5)]).bind fun v6 =>
    (apSlice 11 120 false true h x3 v6).bind fun v7 =>
    (bin .add x4 (.int .i64 1)).bind fun v8 =>
    warrantorref29_puts.l0 J m0 x0 v7 v8 h) (
    some (AEnd.ret x3, h)) := (hJ _ _ _ (by kernel_rfl)).trans (by kernel_rfl)
/-! ### warrantor/journal.image: function 84 -/
noncomputable def journal_image.A : FAnn := { nv := 13, mv := [(2, 0), (4, 1), (5, 0), (6, 0), (6, 5), (7, 0), (14, 1), (14, 2)], ld := [(11, 1)], lst := [], obj := [], q := [], raw := [] }
noncomputable def journal_image.an : Ann := .mk none .nil (.mk none .nil (.mk none .nil (.mk none .nil (.mk none .nil (.mk none .nil (.mk (some [(2, 0), (6, 1), (7, 0), (8, 1), (9, 1)]) (.mk none .nil (.mk none (.mk none (.mk (some [(2, 0), (6, 1), (7, 0), (9, 1), (42, 1), (43, 0), (44, 0)]) .nil .nil) .nil) .nil)) .nil))))))
noncomputable abbrev journal_image.c : Code := Tryz.f84.body.getD .skip
noncomputable def journal_image.J (call : Cl) (n : Nat) : Jn (AEnd × H) := realJ Tryz.prog journal_image.A call Tryz.f84 journal_image.an journal_image.c n
abbrev journal_image.F (call : Cl) (n : Nat) (J : Jn (AEnd × H)) : Prop := JFix Tryz.prog journal_image.A call Tryz.f84 journal_image.an journal_image.c n J
def journal_image.f (J : Jn (AEnd × H)) (x0 : AV) (h : H) : Option (AEnd × H) := J [] [] ⟨[(0, x0)], [], [], h⟩
def journal_image.j0 (J : Jn (AEnd × H)) (x2 x6 x7 x8 x9 : AV) (h : H) : Option (AEnd × H) := J [1, 1, 1, 1, 1, 1] [] ⟨[(2, x2), (6, x6), (7, x7), (8, x8), (9, x9)], [(2, 0), (6, 1), (7, 0), (8, 1), (9, 1)], [], h⟩
def journal_image.l0 (J : Jn (AEnd × H)) (m0 : Nat) (x2 x6 x7 x9 x42 x43 x44 : AV) (h : H) : Option (AEnd × H) := J [1, 1, 1, 1, 1, 1, 0, 1, 0] [m0] ⟨[(2, x2), (6, x6), (7, x7), (9, x9), (42, x42), (43, x43), (44, x44)], [(2, 0), (6, 1), (7, 0), (9, 1), (42, 1), (43, 0), (44, 0)], [], h⟩
theorem journal_image.f_eq {call : Cl} {n : Nat} {J : Jn (AEnd × H)} (hJ : journal_image.F call n J) (x0 : AV) (h : H) : journal_image.f J x0 h =
  let h1 : H := h ++ [.arr [.int .i64 0, .list [] .cap, .list [] .cap] false]
  (call n_journal_head [AV.canon x0] h1).bind fun p2 => retOr p2.1 (fun r3p => some (AEnd.pan r3p, p2.2)) fun r3 =>
  (exTuple 0 r3).bind fun v4 =>
  (exTuple 1 r3).bind fun v5 =>
  (exTuple 2 r3).bind fun v6 =>
  (mkAgg [.int .i64 0, .list [] .cap, .list [] .cap] [(0, 1, AV.copy v4)]).bind fun v7 =>
  let h8 : H := p2.2 ++ [.arr [.int .i64 0, .list [] .cap, .list [] .cap] false]
  (stN 3 h8 (.ptr p2.2.length 0) v7).bind fun p9 =>
  (bin .eql v5 (.int .i64 0)).bind fun v10 =>
  condV v10 (
    (ldAgg 3 p9.2 (.ptr p2.2.length 0)).bind fun v11 =>
    (stN 3 p9.2 (.ptr h.length 0) (AV.copy v11)).bind fun p12 =>
    (resN [(ldAgg 3 p12.2 (.ptr h.length 0)).map AV.copy, some v6]).map fun v => (AEnd.ret v, p12.2)) (
    (slSlice 1 x0 (some v6) none none).bind fun v13 =>
    (call n_rec_Get [AV.canon v13] p9.2).bind fun p14 => retOr p14.1 (fun r15p => some (AEnd.pan r15p, p14.2)) fun r15 =>
    (exTuple 0 r15).bind fun v16 =>
    (exTuple 1 r15).bind fun v17 =>
    (exTuple 2 r15).bind fun v18 =>
    (bin .eql v18 (.int .i64 0)).bind fun v19 =>
    condV v19 (
      (lnSl v16).bind fun v20 =>
      (bin .eql v20 v5).bind fun v21 =>
      (call n_journal_must [AV.canon v21] p14.2).bind fun p22 => retOr p22.1 (fun r23p => some (AEnd.pan r23p, p22.2)) fun r23 =>
      journal_image.j0 J  (.ptr h.length 0) v6 (.ptr p2.2.length 0) v16 v17 p22.2) (
      (call n_journal_must [AV.canon (.bool false)] p14.2).bind fun p24 => retOr p24.1 (fun r25p => some (AEnd.pan r25p, p24.2)) fun r25 =>
      journal_image.j0 J  (.ptr h.length 0) v6 (.ptr p2.2.length 0) v16 v17 p24.2)) := (hJ _ _ _ (by kernel_rfl)).trans (by kernel_rfl)
theorem journal_image.j0_eq {call : Cl} {n : Nat} {J : Jn (AEnd × H)} (hJ : journal_image.F call n J) (x2 x6 x7 x8 x9 : AV) (h : H) : journal_image.j0 J  x2 x6 x7 x8 x9 h =
  (lnSl x8).bind fun v26 =>
  journal_image.l0 J n x2 x6 x7 x9 x8 v26 (.int .i64 0) h := (hJ _ _ _ (by kernel_rfl)).trans (by kernel_rfl)
theorem journal_image.l0_eq {call : Cl} {n : Nat} {J : Jn (AEnd × H)} (hJ : journal_image.F call n J) (m0 : Nat) (x2 x6 x7 x9 x42 x43 x44 : AV) (h : H) : journal_image.l0 J (m0 + 1) x2 x6 x7 x9 x42 x43 x44 h =
  (bin .lss x44 x43).bind fun v27 =>
  condV v27 (
    (ixSlice 11 x42 x44).bind fun v28 =>
    (ldAgg 11 h v28).bind fun v29 =>
    let h30 : H := h ++ [.arr [.int .i64 0, .int .u64 0, .int .i64 0, .int .i64 0, .str [], .str [], .int .i64 0, .str [], .int .i64 0, .int .i64 0, .str []] false]
    (stN 11 h30 (.ptr h.length 0) (AV.copy v29)).bind fun p31 =>
    (fAddr 0 (.ptr h.length 0)).bind fun v32 =>
    (ldCell p31.2 v32).bind fun v33 =>
    (bin .eql v33 (.int .i64 5)).bind fun v34 =>
    (call n_journal_must [AV.canon v34] p31.2).bind fun p35 => retOr p35.1 (fun r36p => some (AEnd.pan r36p, p35.2)) fun r36 =>
    (fAddr 1 x7).bind fun v37 =>
    (ldTake p35.2 v37).bind fun p38 =>
    (fAddr 1 (.ptr h.length 0)).bind fun v39 =>
    (ldAgg 10 p38.2 v39).bind fun v40 =>
    (mkRows 10 [.int .u64 0, .int .i64 0, .int .i64 0, .str [], .str [], .int .i64 0, .str [], .int .i64 0, .int .i64 0, .str []] 1 [(0, v40)]).bind fun v41 =>
    (apSlice 10 112 false true p38.2 p38.1 v41).bind fun v42 =>
    (fAddr 1 x7).bind fun v43 =>
    (stN 1 p38.2 v43 v42).bind fun p44 =>
    (bin .add x44 (.int .i64 1)).bind fun v45 =>
    journal_image.l0 J m0 x2 x6 x7 x9 x42 x43 v45 p44.2) (
    (fAddr 1 x7).bind fun v46 =>
    (ldCell h v46).bind fun v47 =>
    (call n_journal_Stand [AV.canon v47] h).bind fun p48 => retOr p48.1 (fun r49p => some (AEnd.pan r49p, p48.2)) fun r49 =>
    (call n_journal_must [AV.canon r49] p48.2).bind fun p50 => retOr p50.1 (fun r51p => some (AEnd.pan r51p, p50.2)) fun r51 =>
    (ldAgg 3 p50.2 x7).bind fun v52 =>
    (bin .add x6 x9).bind fun v53 =>
    (stN 3 p50.2 x2 (AV.copy v52)).bind fun p54 =>
    (resN [(ldAgg 3 p54.2 x2).map AV.copy, some (AV.copy v53)]).map fun v => (AEnd.ret v, p54.2)) := (hJ _ _ _ (by kernel_rfl)).trans (by kernel_rfl)
/-! ### warrantor/journal.batches: function 85 -/
noncomputable def journal_batches.A : FAnn := { nv := 4, mv := [], ld := [], lst := [], obj := [], q := [], raw := [] }
noncomputable def journal_batches.an : Ann := .nil
noncomputable abbrev journal_batches.c : Code := Tryz.f85.body.getD .skip
noncomputable def journal_batches.J (call : Cl) (n : Nat) : Jn (AEnd × H) := realJ Tryz.prog journal_batches.A call Tryz.f85 journal_batches.an journal_batches.c n
abbrev journal_batches.F (call : Cl) (n : Nat) (J : Jn (AEnd × H)) : Prop := JFix Tryz.prog journal_batches.A call Tryz.f85 journal_batches.an journal_batches.c n J
def journal_batches.f (J : Jn (AEnd × H)) (x0 x1 : AV) (h : H) : Option (AEnd × H) := J [] [] ⟨[(0, x0), (1, x1)], [], [], h⟩
theorem journal_batches.f_eq {call : Cl} {n : Nat} {J : Jn (AEnd × H)} (hJ : journal_batches.F call n J) (x0 x1 : AV) (h : H) : journal_batches.f J x0 x1 h =
  (bx h (AV.copy x0)).bind fun p1 =>
  (bx p1.2 (AV.copy x1)).bind fun p2 =>
  some (AEnd.ret (AV.copy (.func (.func n_journal_batches_c1) [] [AV.copy p2.1, AV.copy p1.1])), p2.2) := (hJ _ _ _ (by kernel_rfl)).trans (by kernel_rfl)
/-! ### warrantor/warrantorref29.image: function 86 -/
noncomputable def warrantorref29_image.A : FAnn := { nv := 16, mv := [(4, 0), (8, 0), (8, 3), (10, 0), (12, 1), (13, 0), (14, 0), (14, 5), (18, 0), (24, 1), (24, 3)], ld := [(21, 1)], lst := [], obj := [], q := [], raw := [] }
noncomputable def warrantorref29_image.an : Ann := .mk none .nil (.mk none (.mk none .nil (.mk (some [(0, 0), (2, 0), (24, 0)]) .nil .nil)) (.mk (some [(0, 0), (2, 0)]) .nil (.mk none .nil (.mk none .nil (.mk none .nil (.mk none .nil (.mk none (.mk none .nil (.mk (some [(0, 0), (2, 0), (6, 1), (9, 255), (10, 255), (54, 0)]) .nil .nil)) (.mk (some [(0, 0), (2, 0), (6, 1), (9, 255), (10, 255)]) .nil (.mk none .nil (.mk none .nil (.mk none (.mk none .nil (.mk (some [(2, 0), (6, 1), (11, 0), (12, 1), (13, 1), (79, 0)]) .nil .nil)) (.mk (some [(2, 0), (6, 1), (11, 0), (12, 1), (13, 1)]) (.mk none .nil (.mk none (.mk none (.mk (some [(2, 0), (6, 1), (11, 0), (12, 1), (13, 1), (15, 0)]) .nil .nil) .nil) .nil)) .nil))))))))))))
noncomputable abbrev warrantorref29_image.c : Code := Tryz.f86.body.getD .skip
noncomputable def warrantorref29_image.J (call : Cl) (n : Nat) : Jn (AEnd × H) := realJ Tryz.prog warrantorref29_image.A call Tryz.f86 warrantorref29_image.an warrantorref29_image.c n
abbrev warrantorref29_image.F (call : Cl) (n : Nat) (J : Jn (AEnd × H)) : Prop := JFix Tryz.prog warrantorref29_image.A call Tryz.f86 warrantorref29_image.an warrantorref29_image.c n J
def warrantorref29_image.f (J : Jn (AEnd × H)) (x0 : AV) (h : H) : Option (AEnd × H) := J [] [] ⟨[(0, x0)], [], [], h⟩
def warrantorref29_image.j1 (J : Jn (AEnd × H)) (x0 x2 x24 : AV) (h : H) : Option (AEnd × H) := J [1, 0, 1] [] ⟨[(0, x0), (2, x2), (24, x24)], [(0, 0), (2, 0), (24, 0)], [], h⟩
def warrantorref29_image.j0 (J : Jn (AEnd × H)) (x0 x2 : AV) (h : H) : Option (AEnd × H) := J [1, 1] [] ⟨[(0, x0), (2, x2)], [(0, 0), (2, 0)], [], h⟩
def warrantorref29_image.j3 (J : Jn (AEnd × H)) (x0 x2 x6 x9 x10 x54 : AV) (h : H) : Option (AEnd × H) := J [1, 1, 1, 1, 1, 1, 1, 0, 1] [] ⟨[(0, x0), (2, x2), (6, x6), (9, x9), (10, x10), (54, x54)], [(0, 0), (2, 0), (6, 1), (9, 255), (10, 255), (54, 0)], [], h⟩
def warrantorref29_image.j2 (J : Jn (AEnd × H)) (x0 x2 x6 x9 x10 : AV) (h : H) : Option (AEnd × H) := J [1, 1, 1, 1, 1, 1, 1, 1] [] ⟨[(0, x0), (2, x2), (6, x6), (9, x9), (10, x10)], [(0, 0), (2, 0), (6, 1), (9, 255), (10, 255)], [], h⟩
def warrantorref29_image.j5 (J : Jn (AEnd × H)) (x2 x6 x11 x12 x13 x79 : AV) (h : H) : Option (AEnd × H) := J [1, 1, 1, 1, 1, 1, 1, 1, 1, 1, 1, 0, 1] [] ⟨[(2, x2), (6, x6), (11, x11), (12, x12), (13, x13), (79, x79)], [(2, 0), (6, 1), (11, 0), (12, 1), (13, 1), (79, 0)], [], h⟩
def warrantorref29_image.j4 (J : Jn (AEnd × H)) (x2 x6 x11 x12 x13 : AV) (h : H) : Option (AEnd × H) := J [1, 1, 1, 1, 1, 1, 1, 1, 1, 1, 1, 1] [] ⟨[(2, x2), (6, x6), (11, x11), (12, x12), (13, x13)], [(2, 0), (6, 1), (11, 0), (12, 1), (13, 1)], [], h⟩
def warrantorref29_image.l0 (J : Jn (AEnd × H)) (m0 : Nat) (x2 x6 x11 x12 x13 x15 : AV) (h : H) : Option (AEnd × H) := J [1, 1, 1, 1, 1, 1, 1, 1, 1, 1, 1, 1, 0, 1, 0] [m0] ⟨[(2, x2), (6, x6), (11, x11), (12, x12), (13, x13), (15, x15)], [(2, 0), (6, 1), (11, 0), (12, 1), (13, 1), (15, 0)], [], h⟩
theorem warrantorref29_image.f_eq {call : Cl} {n : Nat} {J : Jn (AEnd × H)} (hJ : warrantorref29_image.F call n J) (x0 : AV) (h : H) : warrantorref29_image.f J x0 h =
  let h1 : H := h ++ [.arr [.int .i64 0, .list [] .cap, .list [] .cap] false]
  (lnSl x0).bind fun v2 =>
  (bin .lss v2 (.int .i64 5)).bind fun v3 =>
  condV v3 (
    warrantorref29_image.j1 J  x0 (.ptr h.length 0) (.bool true) h1) (
    (slSlice 1 x0 none (some (.int .i64 5)) none).bind fun v4 =>
    (bytesStr h1 v4).bind fun v5 =>
    (bin .neq v5 (.str [65, 73, 82, 74, 1])).bind fun v6 =>
    warrantorref29_image.j1 J  x0 (.ptr h.length 0) v6 h1) := (hJ _ _ _ (by kernel_rfl)).trans (by kernel_rfl)
theorem warrantorref29_image.j1_eq {call : Cl} {n : Nat} {J : Jn (AEnd × H)} (hJ : warrantorref29_image.F call n J) (x0 x2 x24 : AV) (h : H) : warrantorref29_image.j1 J  x0 x2 x24 h =
  condV x24 (
    (mkAgg [.int .i64 0, .list [] .cap, .list [] .cap] []).bind fun v7 =>
    (stN 3 h x2 v7).bind fun p8 =>
    (resN [(ldAgg 3 p8.2 x2).map AV.copy, some (.int .i64 0), some (.bool false)]).map fun v => (AEnd.ret v, p8.2)) (
    warrantorref29_image.j0 J  x0 x2 h) := (hJ _ _ _ (by kernel_rfl)).trans (by kernel_rfl)
theorem warrantorref29_image.j0_eq {call : Cl} {n : Nat} {J : Jn (AEnd × H)} (hJ : warrantorref29_image.F call n J) (x0 x2 : AV) (h : H) : warrantorref29_image.j0 J  x0 x2 h =
  (slSlice 1 x0 (some (.int .i64 5)) none none).bind fun v9 =>
  (call n_warrantorref27_Open [AV.canon v9] h).bind fun p10 => retOr p10.1 (fun r11p => some (AEnd.pan r11p, p10.2)) fun r11 =>
  (exTuple 0 r11).bind fun v12 =>
  (exTuple 1 r11).bind fun v13 =>
  (exTuple 2 r11).bind fun v14 =>
  (mkAgg [.list [] .cap, .int .i64 0, .int .i64 0] [(0, 1, AV.copy v12)]).bind fun v15 =>
  (bx p10.2 v15).bind fun p16 =>
  (call n_warrantorref02_Reader_Count [AV.canon p16.1, AV.canon (.int .i64 1099511627776)] p16.2).bind fun p17 => retOr p17.1 (fun r18p => some (AEnd.pan r18p, p17.2)) fun r18 =>
  (call n_warrantorref02_Reader_Count [AV.canon p16.1, AV.canon (.int .i64 512)] p17.2).bind fun p19 => retOr p19.1 (fun r20p => some (AEnd.pan r20p, p19.2)) fun r20 =>
  (call n_warrantorref02_Reader_End [AV.canon p16.1] p19.2).bind fun p21 => retOr p21.1 (fun r22p => some (AEnd.pan r22p, p21.2)) fun r22 =>
  (bin .neq v14 (.int .i64 0)).bind fun v23 =>
  condV v23 (
    warrantorref29_image.j3 J  x0 x2 v13 r18 r20 (.bool true) p21.2) (
    (nilOk p16.1).bind fun v24 =>
    (fAddr 2 v24).bind fun v25 =>
    (ldCell p21.2 v25).bind fun v26 =>
    (bin .neq v26 (.int .i64 0)).bind fun v27 =>
    condV v27 (
      warrantorref29_image.j3 J  x0 x2 v13 r18 r20 (.bool true) p21.2) (
      (bin .lss r18 (.int .i64 1)).bind fun v28 =>
      warrantorref29_image.j3 J  x0 x2 v13 r18 r20 v28 p21.2)) := (hJ _ _ _ (by kernel_rfl)).trans (by kernel_rfl)
theorem warrantorref29_image.j3_eq {call : Cl} {n : Nat} {J : Jn (AEnd × H)} (hJ : warrantorref29_image.F call n J) (x0 x2 x6 x9 x10 x54 : AV) (h : H) : warrantorref29_image.j3 J  x0 x2 x6 x9 x10 x54 h =
  condV x54 (
    (mkAgg [.int .i64 0, .list [] .cap, .list [] .cap] []).bind fun v29 =>
    (stN 3 h x2 v29).bind fun p30 =>
    (resN [(ldAgg 3 p30.2 x2).map AV.copy, some (.int .i64 0), some (.bool false)]).map fun v => (AEnd.ret v, p30.2)) (
    warrantorref29_image.j2 J  x0 x2 x6 x9 x10 h) := (hJ _ _ _ (by kernel_rfl)).trans (by kernel_rfl)
theorem warrantorref29_image.j2_eq {call : Cl} {n : Nat} {J : Jn (AEnd × H)} (hJ : warrantorref29_image.F call n J) (x0 x2 x6 x9 x10 : AV) (h : H) : warrantorref29_image.j2 J  x0 x2 x6 x9 x10 h =
  (mkAgg [.int .i64 0, .list [] .cap, .list [] .cap] [(0, 1, AV.copy x9)]).bind fun v31 =>
  let h32 : H := h ++ [.arr [.int .i64 0, .list [] .cap, .list [] .cap] false]
  (stN 3 h32 (.ptr h.length 0) v31).bind fun p33 =>
  (bin .eql x10 (.int .i64 0)).bind fun v34 =>
  condV v34 (
    (ldAgg 3 p33.2 (.ptr h.length 0)).bind fun v35 =>
    (bin .add (.int .i64 5) x6).bind fun v36 =>
    (stN 3 p33.2 x2 (AV.copy v35)).bind fun p37 =>
    (resN [(ldAgg 3 p37.2 x2).map AV.copy, some (AV.copy v36), some (.bool true)]).map fun v => (AEnd.ret v, p37.2)) (
    (bin .add (.int .i64 5) x6).bind fun v38 =>
    (slSlice 1 x0 (some v38) none none).bind fun v39 =>
    (call n_warrantorref27_Get [AV.canon v39] p33.2).bind fun p40 => retOr p40.1 (fun r41p => some (AEnd.pan r41p, p40.2)) fun r41 =>
    (exTuple 0 r41).bind fun v42 =>
    (exTuple 1 r41).bind fun v43 =>
    (exTuple 2 r41).bind fun v44 =>
    (bin .neq v44 (.int .i64 0)).bind fun v45 =>
    condV v45 (
      warrantorref29_image.j5 J  x2 x6 (.ptr h.length 0) v42 v43 (.bool true) p40.2) (
      (lnSl v42).bind fun v46 =>
      (bin .neq v46 x10).bind fun v47 =>
      warrantorref29_image.j5 J  x2 x6 (.ptr h.length 0) v42 v43 v47 p40.2)) := (hJ _ _ _ (by kernel_rfl)).trans (by kernel_rfl)
theorem warrantorref29_image.j5_eq {call : Cl} {n : Nat} {J : Jn (AEnd × H)} (hJ : warrantorref29_image.F call n J) (x2 x6 x11 x12 x13 x79 : AV) (h : H) : warrantorref29_image.j5 J  x2 x6 x11 x12 x13 x79 h =
  condV x79 (
    (mkAgg [.int .i64 0, .list [] .cap, .list [] .cap] []).bind fun v48 =>
    (stN 3 h x2 v48).bind fun p49 =>
    (resN [(ldAgg 3 p49.2 x2).map AV.copy, some (.int .i64 0), some (.bool false)]).map fun v => (AEnd.ret v, p49.2)) (
    warrantorref29_image.j4 J  x2 x6 x11 x12 x13 h) := (hJ _ _ _ (by kernel_rfl)).trans (by kernel_rfl)
theorem warrantorref29_image.j4_eq {call : Cl} {n : Nat} {J : Jn (AEnd × H)} (hJ : warrantorref29_image.F call n J) (x2 x6 x11 x12 x13 : AV) (h : H) : warrantorref29_image.j4 J  x2 x6 x11 x12 x13 h =
  warrantorref29_image.l0 J n x2 x6 x11 x12 x13 (.int .i64 0) h := (hJ _ _ _ (by kernel_rfl)).trans (by kernel_rfl)
theorem warrantorref29_image.l0_eq {call : Cl} {n : Nat} {J : Jn (AEnd × H)} (hJ : warrantorref29_image.F call n J) (m0 : Nat) (x2 x6 x11 x12 x13 x15 : AV) (h : H) : warrantorref29_image.l0 J (m0 + 1) x2 x6 x11 x12 x13 x15 h =
  (lnSl x12).bind fun v50 =>
  (bin .lss x15 v50).bind fun v51 =>
  condV v51 (
    (ixSlice 11 x12 x15).bind fun v52 =>
    (fAddr 0 v52).bind fun v53 =>
    (ldCell h v53).bind fun v54 =>
    (bin .neq v54 (.int .i64 5)).bind fun v55 =>
    condV v55 (
      (mkAgg [.int .i64 0, .list [] .cap, .list [] .cap] []).bind fun v56 =>
      (stN 3 h x2 v56).bind fun p57 =>
      (resN [(ldAgg 3 p57.2 x2).map AV.copy, some (.int .i64 0), some (.bool false)]).map fun v => (AEnd.ret v, p57.2)) (
      (fAddr 1 x11).bind fun v58 =>
      (ldCell h v58).bind fun v59 =>
      (ixSlice 11 x12 x15).bind fun v60 =>
      (fAddr 1 v60).bind fun v61 =>
      (ldAgg 10 h v61).bind fun v62 =>
      (mkRows 10 [.int .u64 0, .int .i64 0, .int .i64 0, .str [], .str [], .int .i64 0, .str [], .int .i64 0, .int .i64 0, .str []] 1 [(0, v62)]).bind fun v63 =>
      (apSlice 10 112 false false h v59 v63).bind fun v64 =>
      (fAddr 1 x11).bind fun v65 =>
      (stN 1 h v65 v64).bind fun p66 =>
      (bin .add x15 (.int .i64 1)).bind fun v67 =>
      warrantorref29_image.l0 J m0 x2 x6 x11 x12 x13 v67 p66.2)) (
    (fAddr 1 x11).bind fun v68 =>
    (ldCell h v68).bind fun v69 =>
    (call n_warrantorref29_Stand [AV.canon v69] h).bind fun p70 => retOr p70.1 (fun r71p => some (AEnd.pan r71p, p70.2)) fun r71 =>
    (unOp .not r71).bind fun v72 =>
    condV v72 (
      (mkAgg [.int .i64 0, .list [] .cap, .list [] .cap] []).bind fun v73 =>
      (stN 3 p70.2 x2 v73).bind fun p74 =>
      (resN [(ldAgg 3 p74.2 x2).map AV.copy, some (.int .i64 0), some (.bool false)]).map fun v => (AEnd.ret v, p74.2)) (
      (ldAgg 3 p70.2 x11).bind fun v75 =>
      (bin .add (.int .i64 5) x6).bind fun v76 =>
      (bin .add v76 x13).bind fun v77 =>
      (stN 3 p70.2 x2 (AV.copy v75)).bind fun p78 =>
      (resN [(ldAgg 3 p78.2 x2).map AV.copy, some (AV.copy v77), some (.bool true)]).map fun v => (AEnd.ret v, p78.2))) := (hJ _ _ _ (by kernel_rfl)).trans (by kernel_rfl)
/-! ### warrantor/rec.kinds$1: function 87 -/
noncomputable def rec_kinds_c1.A : FAnn := { nv := 2, mv := [], ld := [], lst := [], obj := [], q := [], raw := [] }
noncomputable def rec_kinds_c1.an : Ann := .nil
noncomputable abbrev rec_kinds_c1.c : Code := Tryz.f87.body.getD .skip
noncomputable def rec_kinds_c1.J (call : Cl) (n : Nat) : Jn (AEnd × H) := realJ Tryz.prog rec_kinds_c1.A call Tryz.f87 rec_kinds_c1.an rec_kinds_c1.c n
abbrev rec_kinds_c1.F (call : Cl) (n : Nat) (J : Jn (AEnd × H)) : Prop := JFix Tryz.prog rec_kinds_c1.A call Tryz.f87 rec_kinds_c1.an rec_kinds_c1.c n J
def rec_kinds_c1.f (J : Jn (AEnd × H)) (x0 : AV) (h : H) : Option (AEnd × H) := J [] [] ⟨[(0, x0)], [], [], h⟩
theorem rec_kinds_c1.f_eq {call : Cl} {n : Nat} {J : Jn (AEnd × H)} (hJ : rec_kinds_c1.F call n J) (x0 : AV) (h : H) : rec_kinds_c1.f J x0 h =
  (bx h (AV.copy x0)).bind fun p1 =>
  (ldAgg 10 p1.2 p1.1).bind fun v2 =>
  (fAddr 0 p1.1).bind fun v3 =>
  (ldCell p1.2 v3).bind fun v4 =>
  (mkAgg [.int .u64 0, .int .i64 0, .int .i64 0, .str [], .str [], .int .i64 0, .str [], .int .i64 0, .int .i64 0, .str []] [(0, 1, AV.copy v4)]).bind fun v5 =>
  (eqv false (aeq Tryz.prog 20 t_api_Entry v2 v5)).bind fun v6 =>
  some (AEnd.ret (AV.copy v6), p1.2) := (hJ _ _ _ (by kernel_rfl)).trans (by kernel_rfl)
/-! ### (warrantor/rec.pen).alarm: function 88 -/
noncomputable def rec_pen_alarm.A : FAnn := { nv := 4, mv := [], ld := [], lst := [], obj := [], q := [], raw := [] }
noncomputable def rec_pen_alarm.an : Ann := .nil
noncomputable abbrev rec_pen_alarm.c : Code := Tryz.f88.body.getD .skip
noncomputable def rec_pen_alarm.J (call : Cl) (n : Nat) : Jn (AEnd × H) := realJ Tryz.prog rec_pen_alarm.A call Tryz.f88 rec_pen_alarm.an rec_pen_alarm.c n
abbrev rec_pen_alarm.F (call : Cl) (n : Nat) (J : Jn (AEnd × H)) : Prop := JFix Tryz.prog rec_pen_alarm.A call Tryz.f88 rec_pen_alarm.an rec_pen_alarm.c n J
def rec_pen_alarm.f (J : Jn (AEnd × H)) (x0 x1 : AV) (h : H) : Option (AEnd × H) := J [] [] ⟨[(0, x0), (1, x1)], [], [], h⟩
theorem rec_pen_alarm.f_eq {call : Cl} {n : Nat} {J : Jn (AEnd × H)} (hJ : rec_pen_alarm.F call n J) (x0 x1 : AV) (h : H) : rec_pen_alarm.f J x0 x1 h =
  (bx h (AV.copy x0)).bind fun p1 =>
  (bx p1.2 (AV.copy x1)).bind fun p2 =>
  (fAddr 0 p1.1).bind fun v3 =>
  (ldCell p2.2 v3).bind fun v4 =>
  (fAddr 1 p2.1).bind fun v5 =>
  (fAddr 0 v5).bind fun v6 =>
  (ldCell p2.2 v6).bind fun v7 =>
  (cvInt .u64 v7).bind fun v8 =>
  (call n_cur_Pen_U [AV.canon v4, AV.canon v8] p2.2).bind fun p9 => retOr p9.1 (fun r10p => some (AEnd.pan r10p, p9.2)) fun r10 =>
  (fAddr 0 p1.1).bind fun v11 =>
  (ldCell p9.2 v11).bind fun v12 =>
  (fAddr 1 p2.1).bind fun v13 =>
  (fAddr 1 v13).bind fun v14 =>
  (ldCell p9.2 v14).bind fun v15 =>
  (cvInt .u64 v15).bind fun v16 =>
  (call n_cur_Pen_U [AV.canon v12, AV.canon v16] p9.2).bind fun p17 => retOr p17.1 (fun r18p => some (AEnd.pan r18p, p17.2)) fun r18 =>
  (fAddr 0 p1.1).bind fun v19 =>
  (ldCell p17.2 v19).bind fun v20 =>
  (fAddr 1 p2.1).bind fun v21 =>
  (fAddr 2 v21).bind fun v22 =>
  (ldCell p17.2 v22).bind fun v23 =>
  (call n_cur_Pen_Text [AV.canon v20, AV.canon v23] p17.2).bind fun p24 => retOr p24.1 (fun r25p => some (AEnd.pan r25p, p24.2)) fun r25 =>
  (fAddr 0 p1.1).bind fun v26 =>
  (ldCell p24.2 v26).bind fun v27 =>
  (fAddr 1 p2.1).bind fun v28 =>
  (fAddr 3 v28).bind fun v29 =>
  (ldCell p24.2 v29).bind fun v30 =>
  (call n_cur_Pen_Text [AV.canon v27, AV.canon v30] p24.2).bind fun p31 => retOr p31.1 (fun r32p => some (AEnd.pan r32p, p31.2)) fun r32 =>
  (fAddr 0 p1.1).bind fun v33 =>
  (ldCell p31.2 v33).bind fun v34 =>
  (fAddr 1 p2.1).bind fun v35 =>
  (fAddr 4 v35).bind fun v36 =>
  (ldCell p31.2 v36).bind fun v37 =>
  (cvInt .u64 v37).bind fun v38 =>
  (call n_cur_Pen_U [AV.canon v34, AV.canon v38] p31.2).bind fun p39 => retOr p39.1 (fun r40p => some (AEnd.pan r40p, p39.2)) fun r40 =>
  (fAddr 0 p1.1).bind fun v41 =>
  (ldCell p39.2 v41).bind fun v42 =>
  (fAddr 1 p2.1).bind fun v43 =>
  (fAddr 5 v43).bind fun v44 =>
  (ldCell p39.2 v44).bind fun v45 =>
  (call n_cur_Pen_Text [AV.canon v42, AV.canon v45] p39.2).bind fun p46 => retOr p46.1 (fun r47p => some (AEnd.pan r47p, p46.2)) fun r47 =>
  some (AEnd.ret (.tuple []), p46.2) := (hJ _ _ _ (by kernel_rfl)).trans (by kernel_rfl)
/-! ### (warrantor/rec.taker).alarm: function 89 -/
noncomputable def rec_taker_alarm.A : FAnn := { nv := 4, mv := [(6, 0)], ld := [], lst := [], obj := [], q := [], raw := [] }
noncomputable def rec_taker_alarm.an : Ann := .nil
noncomputable abbrev rec_taker_alarm.c : Code := Tryz.f89.body.getD .skip
noncomputable def rec_taker_alarm.J (call : Cl) (n : Nat) : Jn (AEnd × H) := realJ Tryz.prog rec_taker_alarm.A call Tryz.f89 rec_taker_alarm.an rec_taker_alarm.c n
abbrev rec_taker_alarm.F (call : Cl) (n : Nat) (J : Jn (AEnd × H)) : Prop := JFix Tryz.prog rec_taker_alarm.A call Tryz.f89 rec_taker_alarm.an rec_taker_alarm.c n J
def rec_taker_alarm.f (J : Jn (AEnd × H)) (x0 x1 : AV) (h : H) : Option (AEnd × H) := J [] [] ⟨[(0, x0), (1, x1)], [], [], h⟩
theorem rec_taker_alarm.f_eq {call : Cl} {n : Nat} {J : Jn (AEnd × H)} (hJ : rec_taker_alarm.F call n J) (x0 x1 : AV) (h : H) : rec_taker_alarm.f J x0 x1 h =
  (bx h (AV.copy x0)).bind fun p1 =>
  (ldAgg 1 p1.2 p1.1).bind fun v2 =>
  (call n_rec_taker_num [AV.canon v2] p1.2).bind fun p3 => retOr p3.1 (fun r4p => some (AEnd.pan r4p, p3.2)) fun r4 =>
  (nilOk x1).bind fun v5 =>
  (fAddr 1 v5).bind fun v6 =>
  (fAddr 0 v6).bind fun v7 =>
  (stN 1 p3.2 v7 r4).bind fun p8 =>
  (ldAgg 1 p8.2 p1.1).bind fun v9 =>
  (call n_rec_taker_num [AV.canon v9] p8.2).bind fun p10 => retOr p10.1 (fun r11p => some (AEnd.pan r11p, p10.2)) fun r11 =>
  (nilOk x1).bind fun v12 =>
  (fAddr 1 v12).bind fun v13 =>
  (fAddr 1 v13).bind fun v14 =>
  (stN 1 p10.2 v14 r11).bind fun p15 =>
  (ldAgg 1 p15.2 p1.1).bind fun v16 =>
  (call n_rec_taker_text [AV.canon v16] p15.2).bind fun p17 => retOr p17.1 (fun r18p => some (AEnd.pan r18p, p17.2)) fun r18 =>
  (nilOk x1).bind fun v19 =>
  (fAddr 1 v19).bind fun v20 =>
  (fAddr 2 v20).bind fun v21 =>
  (stN 1 p17.2 v21 r18).bind fun p22 =>
  (ldAgg 1 p22.2 p1.1).bind fun v23 =>
  (call n_rec_taker_text [AV.canon v23] p22.2).bind fun p24 => retOr p24.1 (fun r25p => some (AEnd.pan r25p, p24.2)) fun r25 =>
  (nilOk x1).bind fun v26 =>
  (fAddr 1 v26).bind fun v27 =>
  (fAddr 3 v27).bind fun v28 =>
  (stN 1 p24.2 v28 r25).bind fun p29 =>
  (ldAgg 1 p29.2 p1.1).bind fun v30 =>
  (call n_rec_taker_num [AV.canon v30] p29.2).bind fun p31 => retOr p31.1 (fun r32p => some (AEnd.pan r32p, p31.2)) fun r32 =>
  (nilOk x1).bind fun v33 =>
  (fAddr 1 v33).bind fun v34 =>
  (fAddr 4 v34).bind fun v35 =>
  (stN 1 p31.2 v35 r32).bind fun p36 =>
  (ldAgg 1 p36.2 p1.1).bind fun v37 =>
  (call n_rec_taker_text [AV.canon v37] p36.2).bind fun p38 => retOr p38.1 (fun r39p => some (AEnd.pan r39p, p38.2)) fun r39 =>
  (nilOk x1).bind fun v40 =>
  (fAddr 1 v40).bind fun v41 =>
  (fAddr 5 v41).bind fun v42 =>
  (stN 1 p38.2 v42 r39).bind fun p43 =>
  some (AEnd.ret (.tuple []), p43.2) := (hJ _ _ _ (by kernel_rfl)).trans (by kernel_rfl)
/-! ### warrantor/rec.kinds$2: function 90 -/
noncomputable def rec_kinds_c2.A : FAnn := { nv := 3, mv := [], ld := [], lst := [], obj := [], q := [], raw := [] }
noncomputable def rec_kinds_c2.an : Ann := .nil
noncomputable abbrev rec_kinds_c2.c : Code := Tryz.f90.body.getD .skip
noncomputable def rec_kinds_c2.J (call : Cl) (n : Nat) : Jn (AEnd × H) := realJ Tryz.prog rec_kinds_c2.A call Tryz.f90 rec_kinds_c2.an rec_kinds_c2.c n
abbrev rec_kinds_c2.F (call : Cl) (n : Nat) (J : Jn (AEnd × H)) : Prop := JFix Tryz.prog rec_kinds_c2.A call Tryz.f90 rec_kinds_c2.an rec_kinds_c2.c n J
def rec_kinds_c2.f (J : Jn (AEnd × H)) (x0 x1 : AV) (h : H) : Option (AEnd × H) := J [] [] ⟨[(0, x0), (1, x1)], [], [], h⟩
theorem rec_kinds_c2.f_eq {call : Cl} {n : Nat} {J : Jn (AEnd × H)} (hJ : rec_kinds_c2.F call n J) (x0 x1 : AV) (h : H) : rec_kinds_c2.f J x0 x1 h =
  (bx h (AV.copy x0)).bind fun p1 =>
  (fAddr 1 p1.1).bind fun v2 =>
  (ldAgg 6 p1.2 v2).bind fun v3 =>
  (call n_alarm_Check [AV.canon v3] p1.2).bind fun p4 => retOr p4.1 (fun r5p => some (AEnd.pan r5p, p4.2)) fun r5 =>
  (bin .eql r5 (.int .i64 0)).bind fun v6 =>
  condV v6 (
    (ldCell p4.2 x1).bind fun v7 =>
    (fAddr 7 p1.1).bind fun v8 =>
    (ldCell p4.2 v8).bind fun v9 =>
    (fAddr 8 p1.1).bind fun v10 =>
    (ldCell p4.2 v10).bind fun v11 =>
    (fAddr 9 p1.1).bind fun v12 =>
    (ldCell p4.2 v12).bind fun v13 =>
    (mkAgg [.int .u64 0, .int .i64 0, .int .i64 0, .str [], .str [], .int .i64 0, .str [], .int .i64 0, .int .i64 0, .str []] [(7, 1, AV.copy v9), (8, 1, AV.copy v11), (9, 1, AV.copy v13)]).bind fun v14 =>
    (callVal call p4.2 v7 [AV.canon v14]).bind fun p15 => retOr p15.1 (fun r16p => some (AEnd.pan r16p, p15.2)) fun r16 =>
    some (AEnd.ret (AV.copy r16), p15.2)) (
    some (AEnd.ret (AV.copy (.bool false)), p4.2)) := (hJ _ _ _ (by kernel_rfl)).trans (by kernel_rfl)
/-! ### (warrantor/rec.pen).note: function 91 -/
noncomputable def rec_pen_note.A : FAnn := { nv := 4, mv := [], ld := [], lst := [], obj := [], q := [], raw := [] }
noncomputable def rec_pen_note.an : Ann := .nil
noncomputable abbrev rec_pen_note.c : Code := Tryz.f91.body.getD .skip
noncomputable def rec_pen_note.J (call : Cl) (n : Nat) : Jn (AEnd × H) := realJ Tryz.prog rec_pen_note.A call Tryz.f91 rec_pen_note.an rec_pen_note.c n
abbrev rec_pen_note.F (call : Cl) (n : Nat) (J : Jn (AEnd × H)) : Prop := JFix Tryz.prog rec_pen_note.A call Tryz.f91 rec_pen_note.an rec_pen_note.c n J
def rec_pen_note.f (J : Jn (AEnd × H)) (x0 x1 : AV) (h : H) : Option (AEnd × H) := J [] [] ⟨[(0, x0), (1, x1)], [], [], h⟩
theorem rec_pen_note.f_eq {call : Cl} {n : Nat} {J : Jn (AEnd × H)} (hJ : rec_pen_note.F call n J) (x0 x1 : AV) (h : H) : rec_pen_note.f J x0 x1 h =
  (bx h (AV.copy x0)).bind fun p1 =>
  (bx p1.2 (AV.copy x1)).bind fun p2 =>
  (fAddr 0 p1.1).bind fun v3 =>
  (ldCell p2.2 v3).bind fun v4 =>
  (fAddr 9 p2.1).bind fun v5 =>
  (ldCell p2.2 v5).bind fun v6 =>
  (call n_cur_Pen_Text [AV.canon v4, AV.canon v6] p2.2).bind fun p7 => retOr p7.1 (fun r8p => some (AEnd.pan r8p, p7.2)) fun r8 =>
  some (AEnd.ret (.tuple []), p7.2) := (hJ _ _ _ (by kernel_rfl)).trans (by kernel_rfl)
/-! ### (warrantor/rec.taker).note: function 92 -/
noncomputable def rec_taker_note.A : FAnn := { nv := 4, mv := [(1, 0)], ld := [], lst := [], obj := [], q := [], raw := [] }
noncomputable def rec_taker_note.an : Ann := .nil
noncomputable abbrev rec_taker_note.c : Code := Tryz.f92.body.getD .skip
noncomputable def rec_taker_note.J (call : Cl) (n : Nat) : Jn (AEnd × H) := realJ Tryz.prog rec_taker_note.A call Tryz.f92 rec_taker_note.an rec_taker_note.c n
abbrev rec_taker_note.F (call : Cl) (n : Nat) (J : Jn (AEnd × H)) : Prop := JFix Tryz.prog rec_taker_note.A call Tryz.f92 rec_taker_note.an rec_taker_note.c n J
def rec_taker_note.f (J : Jn (AEnd × H)) (x0 x1 : AV) (h : H) : Option (AEnd × H) := J [] [] ⟨[(0, x0), (1, x1)], [], [], h⟩
theorem rec_taker_note.f_eq {call : Cl} {n : Nat} {J : Jn (AEnd × H)} (hJ : rec_taker_note.F call n J) (x0 x1 : AV) (h : H) : rec_taker_note.f J x0 x1 h =
  (bx h (AV.copy x0)).bind fun p1 =>
  (ldAgg 1 p1.2 p1.1).bind fun v2 =>
  (call n_rec_taker_text [AV.canon v2] p1.2).bind fun p3 => retOr p3.1 (fun r4p => some (AEnd.pan r4p, p3.2)) fun r4 =>
  (nilOk x1).bind fun v5 =>
  (fAddr 9 v5).bind fun v6 =>
  (stN 1 p3.2 v6 r4).bind fun p7 =>
  some (AEnd.ret (.tuple []), p7.2) := (hJ _ _ _ (by kernel_rfl)).trans (by kernel_rfl)
/-! ### warrantor/rec.kinds$3: function 93 -/
noncomputable def rec_kinds_c3.A : FAnn := { nv := 3, mv := [], ld := [], lst := [], obj := [], q := [], raw := [] }
noncomputable def rec_kinds_c3.an : Ann := .nil
noncomputable abbrev rec_kinds_c3.c : Code := Tryz.f93.body.getD .skip
noncomputable def rec_kinds_c3.J (call : Cl) (n : Nat) : Jn (AEnd × H) := realJ Tryz.prog rec_kinds_c3.A call Tryz.f93 rec_kinds_c3.an rec_kinds_c3.c n
abbrev rec_kinds_c3.F (call : Cl) (n : Nat) (J : Jn (AEnd × H)) : Prop := JFix Tryz.prog rec_kinds_c3.A call Tryz.f93 rec_kinds_c3.an rec_kinds_c3.c n J
def rec_kinds_c3.f (J : Jn (AEnd × H)) (x0 x1 : AV) (h : H) : Option (AEnd × H) := J [] [] ⟨[(0, x0), (1, x1)], [], [], h⟩
theorem rec_kinds_c3.f_eq {call : Cl} {n : Nat} {J : Jn (AEnd × H)} (hJ : rec_kinds_c3.F call n J) (x0 x1 : AV) (h : H) : rec_kinds_c3.f J x0 x1 h =
  (bx h (AV.copy x0)).bind fun p1 =>
  (fAddr 9 p1.1).bind fun v2 =>
  (ldCell p1.2 v2).bind fun v3 =>
  (call n_rec_note [AV.canon v3] p1.2).bind fun p4 => retOr p4.1 (fun r5p => some (AEnd.pan r5p, p4.2)) fun r5 =>
  condV r5 (
    (ldCell p4.2 x1).bind fun v6 =>
    (fAddr 1 p1.1).bind fun v7 =>
    (ldAgg 6 p4.2 v7).bind fun v8 =>
    (fAddr 7 p1.1).bind fun v9 =>
    (ldCell p4.2 v9).bind fun v10 =>
    (fAddr 8 p1.1).bind fun v11 =>
    (ldCell p4.2 v11).bind fun v12 =>
    (mkAgg [.int .u64 0, .int .i64 0, .int .i64 0, .str [], .str [], .int .i64 0, .str [], .int .i64 0, .int .i64 0, .str []] [(1, 6, AV.copy v8), (7, 1, AV.copy v10), (8, 1, AV.copy v12)]).bind fun v13 =>
    (callVal call p4.2 v6 [AV.canon v13]).bind fun p14 => retOr p14.1 (fun r15p => some (AEnd.pan r15p, p14.2)) fun r15 =>
    some (AEnd.ret (AV.copy r15), p14.2)) (
    some (AEnd.ret (AV.copy (.bool false)), p4.2)) := (hJ _ _ _ (by kernel_rfl)).trans (by kernel_rfl)
/-! ### (warrantor/rec.pen).stand: function 94 -/
noncomputable def rec_pen_stand.A : FAnn := { nv := 4, mv := [], ld := [], lst := [], obj := [], q := [], raw := [] }
noncomputable def rec_pen_stand.an : Ann := .nil
noncomputable abbrev rec_pen_stand.c : Code := Tryz.f94.body.getD .skip
noncomputable def rec_pen_stand.J (call : Cl) (n : Nat) : Jn (AEnd × H) := realJ Tryz.prog rec_pen_stand.A call Tryz.f94 rec_pen_stand.an rec_pen_stand.c n
abbrev rec_pen_stand.F (call : Cl) (n : Nat) (J : Jn (AEnd × H)) : Prop := JFix Tryz.prog rec_pen_stand.A call Tryz.f94 rec_pen_stand.an rec_pen_stand.c n J
def rec_pen_stand.f (J : Jn (AEnd × H)) (x0 x1 : AV) (h : H) : Option (AEnd × H) := J [] [] ⟨[(0, x0), (1, x1)], [], [], h⟩
theorem rec_pen_stand.f_eq {call : Cl} {n : Nat} {J : Jn (AEnd × H)} (hJ : rec_pen_stand.F call n J) (x0 x1 : AV) (h : H) : rec_pen_stand.f J x0 x1 h =
  (bx h (AV.copy x0)).bind fun p1 =>
  (bx p1.2 (AV.copy x1)).bind fun p2 =>
  (fAddr 0 p1.1).bind fun v3 =>
  (ldCell p2.2 v3).bind fun v4 =>
  (fAddr 7 p2.1).bind fun v5 =>
  (ldCell p2.2 v5).bind fun v6 =>
  (cvInt .u64 v6).bind fun v7 =>
  (call n_cur_Pen_U [AV.canon v4, AV.canon v7] p2.2).bind fun p8 => retOr p8.1 (fun r9p => some (AEnd.pan r9p, p8.2)) fun r9 =>
  (fAddr 0 p1.1).bind fun v10 =>
  (ldCell p8.2 v10).bind fun v11 =>
  (fAddr 8 p2.1).bind fun v12 =>
  (ldCell p8.2 v12).bind fun v13 =>
  (cvInt .u64 v13).bind fun v14 =>
  (call n_cur_Pen_U [AV.canon v11, AV.canon v14] p8.2).bind fun p15 => retOr p15.1 (fun r16p => some (AEnd.pan r16p, p15.2)) fun r16 =>
  some (AEnd.ret (.tuple []), p15.2) := (hJ _ _ _ (by kernel_rfl)).trans (by kernel_rfl)
/-! ### (warrantor/rec.taker).stand: function 95 -/
noncomputable def rec_taker_stand.A : FAnn := { nv := 4, mv := [(2, 0)], ld := [], lst := [], obj := [], q := [], raw := [] }
noncomputable def rec_taker_stand.an : Ann := .nil
noncomputable abbrev rec_taker_stand.c : Code := Tryz.f95.body.getD .skip
noncomputable def rec_taker_stand.J (call : Cl) (n : Nat) : Jn (AEnd × H) := realJ Tryz.prog rec_taker_stand.A call Tryz.f95 rec_taker_stand.an rec_taker_stand.c n
abbrev rec_taker_stand.F (call : Cl) (n : Nat) (J : Jn (AEnd × H)) : Prop := JFix Tryz.prog rec_taker_stand.A call Tryz.f95 rec_taker_stand.an rec_taker_stand.c n J
def rec_taker_stand.f (J : Jn (AEnd × H)) (x0 x1 : AV) (h : H) : Option (AEnd × H) := J [] [] ⟨[(0, x0), (1, x1)], [], [], h⟩
theorem rec_taker_stand.f_eq {call : Cl} {n : Nat} {J : Jn (AEnd × H)} (hJ : rec_taker_stand.F call n J) (x0 x1 : AV) (h : H) : rec_taker_stand.f J x0 x1 h =
  (bx h (AV.copy x0)).bind fun p1 =>
  (ldAgg 1 p1.2 p1.1).bind fun v2 =>
  (call n_rec_taker_num [AV.canon v2] p1.2).bind fun p3 => retOr p3.1 (fun r4p => some (AEnd.pan r4p, p3.2)) fun r4 =>
  (nilOk x1).bind fun v5 =>
  (fAddr 7 v5).bind fun v6 =>
  (stN 1 p3.2 v6 r4).bind fun p7 =>
  (ldAgg 1 p7.2 p1.1).bind fun v8 =>
  (call n_rec_taker_num [AV.canon v8] p7.2).bind fun p9 => retOr p9.1 (fun r10p => some (AEnd.pan r10p, p9.2)) fun r10 =>
  (nilOk x1).bind fun v11 =>
  (fAddr 8 v11).bind fun v12 =>
  (stN 1 p9.2 v12 r10).bind fun p13 =>
  some (AEnd.ret (.tuple []), p13.2) := (hJ _ _ _ (by kernel_rfl)).trans (by kernel_rfl)
/-! ### warrantor/alarm.expr: function 96 -/
noncomputable def alarm_expr.A : FAnn := { nv := 4, mv := [(2, 8), (2, 9)], ld := [], lst := [], obj := [], q := [], raw := [] }
noncomputable def alarm_expr.an : Ann := .nil
noncomputable abbrev alarm_expr.c : Code := Tryz.f96.body.getD .skip
noncomputable def alarm_expr.J (call : Cl) (n : Nat) : Jn (AEnd × H) := realJ Tryz.prog alarm_expr.A call Tryz.f96 alarm_expr.an alarm_expr.c n
abbrev alarm_expr.F (call : Cl) (n : Nat) (J : Jn (AEnd × H)) : Prop := JFix Tryz.prog alarm_expr.A call Tryz.f96 alarm_expr.an alarm_expr.c n J
def alarm_expr.f (J : Jn (AEnd × H)) (x0 : AV) (h : H) : Option (AEnd × H) := J [] [] ⟨[(0, x0)], [], [], h⟩
theorem alarm_expr.f_eq {call : Cl} {n : Nat} {J : Jn (AEnd × H)} (hJ : alarm_expr.F call n J) (x0 : AV) (h : H) : alarm_expr.f J x0 h =
  (bin .neq x0 (.str [])).bind fun v1 =>
  condV v1 (
    (lnStr x0).bind fun v2 =>
    (bin .leq v2 (.int .i64 128)).bind fun v3 =>
    condV v3 (
      (call n_strings_ContainsFunc [AV.canon x0, AV.canon (.func (.func n_alarm_expr_c1) [] [])] h).bind fun p4 => retOr p4.1 (fun r5p => some (AEnd.pan r5p, p4.2)) fun r5 =>
      (unOp .not r5).bind fun v6 =>
      some (AEnd.ret (AV.copy v6), p4.2)) (
      some (AEnd.ret (AV.copy (.bool false)), h))) (
    some (AEnd.ret (AV.copy (.bool false)), h)) := (hJ _ _ _ (by kernel_rfl)).trans (by kernel_rfl)
/-! ### warrantor/prog.Check: function 97 -/
noncomputable def prog_Check.A : FAnn := { nv := 5, mv := [(5, 6)], ld := [], lst := [], obj := [], q := [], raw := [] }
noncomputable def prog_Check.an : Ann := .mk none .nil (.mk none .nil (.mk none .nil (.mk none (.mk none .nil (.mk (some [(1, 0), (4, 0), (29, 0)]) .nil .nil)) (.mk (some [(1, 0), (4, 0)]) (.mk none .nil (.mk (some [(38, 0)]) .nil .nil)) .nil))))
noncomputable abbrev prog_Check.c : Code := Tryz.f97.body.getD .skip
noncomputable def prog_Check.J (call : Cl) (n : Nat) : Jn (AEnd × H) := realJ Tryz.prog prog_Check.A call Tryz.f97 prog_Check.an prog_Check.c n
abbrev prog_Check.F (call : Cl) (n : Nat) (J : Jn (AEnd × H)) : Prop := JFix Tryz.prog prog_Check.A call Tryz.f97 prog_Check.an prog_Check.c n J
def prog_Check.f (J : Jn (AEnd × H)) (x0 : AV) (h : H) : Option (AEnd × H) := J [] [] ⟨[(0, x0)], [], [], h⟩
def prog_Check.j1 (J : Jn (AEnd × H)) (x1 x4 x29 : AV) (h : H) : Option (AEnd × H) := J [1, 1, 1, 0, 1] [] ⟨[(1, x1), (4, x4), (29, x29)], [(1, 0), (4, 0), (29, 0)], [], h⟩
def prog_Check.j0 (J : Jn (AEnd × H)) (x1 x4 : AV) (h : H) : Option (AEnd × H) := J [1, 1, 1, 1] [] ⟨[(1, x1), (4, x4)], [(1, 0), (4, 0)], [], h⟩
def prog_Check.j2 (J : Jn (AEnd × H)) (x38 : AV) (h : H) : Option (AEnd × H) := J [1, 1, 1, 1, 0, 1] [] ⟨[(38, x38)], [(38, 0)], [], h⟩
theorem prog_Check.f_eq {call : Cl} {n : Nat} {J : Jn (AEnd × H)} (hJ : prog_Check.F call n J) (x0 : AV) (h : H) : prog_Check.f J x0 h =
  (bx h (AV.copy x0)).bind fun p1 =>
  (fAddr 2 p1.1).bind fun v2 =>
  (ldCell p1.2 v2).bind fun v3 =>
  (lnSl v3).bind fun v4 =>
  let h5 : H := p1.2 ++ [.arr [.int .i64 0] false]
  (stN 1 h5 (.ptr p1.2.length 0) (AV.copy v4)).bind fun p6 =>
  (fAddr 0 p1.1).bind fun v7 =>
  (ldCell p6.2 v7).bind fun v8 =>
  (call n_prog_name [AV.canon v8] p6.2).bind fun p9 => retOr p9.1 (fun r10p => some (AEnd.pan r10p, p9.2)) fun r10 =>
  (unOp .not r10).bind fun v11 =>
  condV v11 (
    prog_Check.j1 J  p1.1 (.func (.func n_prog_Check_c1) [] [AV.copy (.ptr p1.2.length 0), AV.copy p1.1]) (.bool true) p9.2) (
    (fAddr 1 p1.1).bind fun v12 =>
    (ldCell p9.2 v12).bind fun v13 =>
    (call n_prog_vars [AV.canon v13] p9.2).bind fun p14 => retOr p14.1 (fun r15p => some (AEnd.pan r15p, p14.2)) fun r15 =>
    (unOp .not r15).bind fun v16 =>
    condV v16 (
      prog_Check.j1 J  p1.1 (.func (.func n_prog_Check_c1) [] [AV.copy (.ptr p1.2.length 0), AV.copy p1.1]) (.bool true) p14.2) (
      (ldCell p14.2 (.ptr p1.2.length 0)).bind fun v17 =>
      (call n_prog_one [AV.canon v17, AV.canon (.int .i64 128)] p14.2).bind fun p18 => retOr p18.1 (fun r19p => some (AEnd.pan r19p, p18.2)) fun r19 =>
      (unOp .not r19).bind fun v20 =>
      condV v20 (
        prog_Check.j1 J  p1.1 (.func (.func n_prog_Check_c1) [] [AV.copy (.ptr p1.2.length 0), AV.copy p1.1]) (.bool true) p18.2) (
        (fAddr 3 p1.1).bind fun v21 =>
        (ldCell p18.2 v21).bind fun v22 =>
        (lnSl v22).bind fun v23 =>
        (bin .gtr v23 (.int .i64 256)).bind fun v24 =>
        prog_Check.j1 J  p1.1 (.func (.func n_prog_Check_c1) [] [AV.copy (.ptr p1.2.length 0), AV.copy p1.1]) v24 p18.2))) := (hJ _ _ _ (by kernel_rfl)).trans (by kernel_rfl)
theorem prog_Check.j1_eq {call : Cl} {n : Nat} {J : Jn (AEnd × H)} (hJ : prog_Check.F call n J) (x1 x4 x29 : AV) (h : H) : prog_Check.j1 J  x1 x4 x29 h =
  condV x29 (
    some (AEnd.ret (.int .i64 110), h)) (
    prog_Check.j0 J  x1 x4 h) := (hJ _ _ _ (by kernel_rfl)).trans (by kernel_rfl)
theorem prog_Check.j0_eq {call : Cl} {n : Nat} {J : Jn (AEnd × H)} (hJ : prog_Check.F call n J) (x1 x4 : AV) (h : H) : prog_Check.j0 J  x1 x4 h =
  (fAddr 2 x1).bind fun v25 =>
  (ldCell h v25).bind fun v26 =>
  (call n_slices_ContainsFunc_api_Spot_api_Spot [AV.canon v26, AV.canon (.func (.func n_prog_Check_c2) [] [])] h).bind fun p27 => retOr p27.1 (fun r28p => some (AEnd.pan r28p, p27.2)) fun r28 =>
  condV r28 (
    prog_Check.j2 J  (.bool true) p27.2) (
    (fAddr 3 x1).bind fun v29 =>
    (ldCell p27.2 v29).bind fun v30 =>
    (call n_slices_ContainsFunc_api_Edge_api_Edge [AV.canon v30, AV.canon x4] p27.2).bind fun p31 => retOr p31.1 (fun r32p => some (AEnd.pan r32p, p31.2)) fun r32 =>
    prog_Check.j2 J  r32 p31.2) := (hJ _ _ _ (by kernel_rfl)).trans (by kernel_rfl)
theorem prog_Check.j2_eq {call : Cl} {n : Nat} {J : Jn (AEnd × H)} (hJ : prog_Check.F call n J) (x38 : AV) (h : H) : prog_Check.j2 J  x38 h =
  condV x38 (
    some (AEnd.ret (.int .i64 110), h)) (
    some (AEnd.ret (.int .i64 0), h)) := (hJ _ _ _ (by kernel_rfl)).trans (by kernel_rfl)
/-! ### warrantor/result.Base: function 98 -/
noncomputable def result_Base.A : FAnn := { nv := 5, mv := [(6, 11)], ld := [], lst := [], obj := [], q := [140], raw := [] }
noncomputable def result_Base.an : Ann := .mk none .nil (.mk none .nil (.mk none (.mk none .nil (.mk none (.mk none (.mk (some [(0, 0), (8, 0), (9, 0), (10, 0)]) .nil (.mk none .nil (.mk none (.mk none (.mk none .nil (.mk none .nil (.mk (some [(0, 0), (8, 0), (9, 0), (10, 0), (33, 0)]) .nil .nil))) .nil) .nil))) .nil) .nil)) .nil))
noncomputable abbrev result_Base.c : Code := Tryz.f98.body.getD .skip
noncomputable def result_Base.J (call : Cl) (n : Nat) : Jn (AEnd × H) := realJ Tryz.prog result_Base.A call Tryz.f98 result_Base.an result_Base.c n
abbrev result_Base.F (call : Cl) (n : Nat) (J : Jn (AEnd × H)) : Prop := JFix Tryz.prog result_Base.A call Tryz.f98 result_Base.an result_Base.c n J
def result_Base.f (J : Jn (AEnd × H)) (x0 : AV) (h : H) : Option (AEnd × H) := J [] [] ⟨[(0, x0)], [], [], h⟩
def result_Base.l0 (J : Jn (AEnd × H)) (m0 : Nat) (x0 x8 x9 x10 : AV) (h : H) : Option (AEnd × H) := J [1, 1, 0, 1, 0] [m0] ⟨[(0, x0), (8, x8), (9, x9), (10, x10)], [(0, 0), (8, 0), (9, 0), (10, 0)], [], h⟩
def result_Base.j0 (J : Jn (AEnd × H)) (m0 : Nat) (x0 x8 x9 x10 x33 : AV) (h : H) : Option (AEnd × H) := J [1, 1, 0, 1, 0, 0, 1, 1, 0, 0, 1, 1] [m0] ⟨[(0, x0), (8, x8), (9, x9), (10, x10), (33, x33)], [(0, 0), (8, 0), (9, 0), (10, 0), (33, 0)], [], h⟩
theorem result_Base.f_eq {call : Cl} {n : Nat} {J : Jn (AEnd × H)} (hJ : result_Base.F call n J) (x0 : AV) (h : H) : result_Base.f J x0 h =
  (lnSl x0).bind fun v1 =>
  (bin .gtr v1 (.int .i64 1024)).bind fun v2 =>
  condV v2 (
    some (AEnd.ret (.int .i64 210), h)) (
    (lnSl x0).bind fun v3 =>
    result_Base.l0 J n x0 x0 v3 (.int .i64 0) h) := (hJ _ _ _ (by kernel_rfl)).trans (by kernel_rfl)
theorem result_Base.l0_eq {call : Cl} {n : Nat} {J : Jn (AEnd × H)} (hJ : result_Base.F call n J) (m0 : Nat) (x0 x8 x9 x10 : AV) (h : H) : result_Base.l0 J (m0 + 1) x0 x8 x9 x10 h =
  (bin .lss x10 x9).bind fun v4 =>
  condV v4 (
    (ixSlice 2 x8 x10).bind fun v5 =>
    (ldAgg 2 h v5).bind fun v6 =>
    let h7 : H := h ++ [.arr [.int .u64 0, .str []] false]
    (stN 2 h7 (.ptr h.length 0) (AV.copy v6)).bind fun p8 =>
    (fAddr 1 (.ptr h.length 0)).bind fun v9 =>
    (ldCell p8.2 v9).bind fun v10 =>
    (call n_result_note [AV.canon v10] p8.2).bind fun p11 => retOr p11.1 (fun _ => none) fun r12 =>
    (unOp .not r12).bind fun v13 =>
    condV v13 (
      result_Base.j0 J m0 x0 x8 x9 x10 (.bool true) p11.2) (
      (bin .gtr x10 (.int .i64 0)).bind fun v14 =>
      condV v14 (
        (fAddr 0 (.ptr h.length 0)).bind fun v15 =>
        (ldCell p11.2 v15).bind fun v16 =>
        (bin .sub x10 (.int .i64 1)).bind fun v17 =>
        (ixSlice 2 x0 v17).bind fun v18 =>
        (fAddr 0 v18).bind fun v19 =>
        (ldCell p11.2 v19).bind fun v20 =>
        (bin .leq v16 v20).bind fun v21 =>
        result_Base.j0 J m0 x0 x8 x9 x10 v21 p11.2) (
        result_Base.j0 J m0 x0 x8 x9 x10 (.bool false) p11.2))) (
    some (AEnd.ret (.int .i64 0), h)) := (hJ _ _ _ (by kernel_rfl)).trans (by kernel_rfl)
theorem result_Base.j0_eq {call : Cl} {n : Nat} {J : Jn (AEnd × H)} (hJ : result_Base.F call n J) (m0 : Nat) (x0 x8 x9 x10 x33 : AV) (h : H) : result_Base.j0 J m0 x0 x8 x9 x10 x33 h =
  condV x33 (
    some (AEnd.ret (.int .i64 210), h)) (
    (bin .add x10 (.int .i64 1)).bind fun v22 =>
    result_Base.l0 J m0 x0 x8 x9 v22 h) := (hJ _ _ _ (by kernel_rfl)).trans (by kernel_rfl)
/-! ### warrantor/warrantorref11.Name: function 99 -/
noncomputable def warrantorref11_Name.A : FAnn := { nv := 4, mv := [(3, 0), (6, 9)], ld := [], lst := [], obj := [], q := [], raw := [] }
noncomputable def warrantorref11_Name.an : Ann := .mk none .nil (.mk none (.mk none .nil (.mk none (.mk none (.mk (some [(0, 0), (3, 0)]) .nil .nil) .nil) .nil)) .nil)
noncomputable abbrev warrantorref11_Name.c : Code := Tryz.f99.body.getD .skip
noncomputable def warrantorref11_Name.J (call : Cl) (n : Nat) : Jn (AEnd × H) := realJ Tryz.prog warrantorref11_Name.A call Tryz.f99 warrantorref11_Name.an warrantorref11_Name.c n
abbrev warrantorref11_Name.F (call : Cl) (n : Nat) (J : Jn (AEnd × H)) : Prop := JFix Tryz.prog warrantorref11_Name.A call Tryz.f99 warrantorref11_Name.an warrantorref11_Name.c n J
def warrantorref11_Name.f (J : Jn (AEnd × H)) (x0 : AV) (h : H) : Option (AEnd × H) := J [] [] ⟨[(0, x0)], [], [], h⟩
def warrantorref11_Name.l0 (J : Jn (AEnd × H)) (m0 : Nat) (x0 x3 : AV) (h : H) : Option (AEnd × H) := J [1, 0, 1, 0] [m0] ⟨[(0, x0), (3, x3)], [(0, 0), (3, 0)], [], h⟩
theorem warrantorref11_Name.f_eq {call : Cl} {n : Nat} {J : Jn (AEnd × H)} (hJ : warrantorref11_Name.F call n J) (x0 : AV) (h : H) : warrantorref11_Name.f J x0 h =
  warrantorref11_Name.l0 J n x0 (.int .i64 0) h := (hJ _ _ _ (by kernel_rfl)).trans (by kernel_rfl)
theorem warrantorref11_Name.l0_eq {call : Cl} {n : Nat} {J : Jn (AEnd × H)} (hJ : warrantorref11_Name.F call n J) (m0 : Nat) (x0 x3 : AV) (h : H) : warrantorref11_Name.l0 J (m0 + 1) x0 x3 h =
  (lnStr x0).bind fun v1 =>
  (bin .lss x3 v1).bind fun v2 =>
  condV v2 (
    (ixStr x0 x3).bind fun v3 =>
    (call n_warrantorref11_more [AV.canon v3] h).bind fun p4 => retOr p4.1 (fun r5p => some (AEnd.pan r5p, p4.2)) fun r5 =>
    (unOp .not r5).bind fun v6 =>
    condV v6 (
      some (AEnd.ret (.bool false), p4.2)) (
      (bin .add x3 (.int .i64 1)).bind fun v7 =>
      warrantorref11_Name.l0 J m0 x0 v7 p4.2)) (
    (lnStr x0).bind fun v8 =>
    (bin .gtr v8 (.int .i64 0)).bind fun v9 =>
    condV v9 (
      (lnStr x0).bind fun v10 =>
      (bin .leq v10 (.int .i64 32)).bind fun v11 =>
      condV v11 (
        (ixStr x0 (.int .i64 0)).bind fun v12 =>
        (call n_warrantorref11_letter [AV.canon v12] h).bind fun p13 => retOr p13.1 (fun r14p => some (AEnd.pan r14p, p13.2)) fun r14 =>
        some (AEnd.ret (AV.copy r14), p13.2)) (
        some (AEnd.ret (AV.copy (.bool false)), h))) (
      some (AEnd.ret (AV.copy (.bool false)), h))) := (hJ _ _ _ (by kernel_rfl)).trans (by kernel_rfl)
/-! ### warrantor/warrantorref11.File: function 100 -/
noncomputable def warrantorref11_File.A : FAnn := { nv := 4, mv := [(3, 0), (6, 9)], ld := [], lst := [], obj := [], q := [], raw := [] }
noncomputable def warrantorref11_File.an : Ann := .mk none .nil (.mk none (.mk none .nil (.mk none (.mk none (.mk (some [(0, 0), (3, 0)]) .nil (.mk none (.mk none (.mk none .nil (.mk (some [(0, 0), (3, 0), (26, 0)]) .nil .nil)) .nil) .nil)) .nil) .nil)) .nil)
noncomputable abbrev warrantorref11_File.c : Code := Tryz.f100.body.getD .skip
noncomputable def warrantorref11_File.J (call : Cl) (n : Nat) : Jn (AEnd × H) := realJ Tryz.prog warrantorref11_File.A call Tryz.f100 warrantorref11_File.an warrantorref11_File.c n
abbrev warrantorref11_File.F (call : Cl) (n : Nat) (J : Jn (AEnd × H)) : Prop := JFix Tryz.prog warrantorref11_File.A call Tryz.f100 warrantorref11_File.an warrantorref11_File.c n J
def warrantorref11_File.f (J : Jn (AEnd × H)) (x0 : AV) (h : H) : Option (AEnd × H) := J [] [] ⟨[(0, x0)], [], [], h⟩
def warrantorref11_File.l0 (J : Jn (AEnd × H)) (m0 : Nat) (x0 x3 : AV) (h : H) : Option (AEnd × H) := J [1, 0, 1, 0] [m0] ⟨[(0, x0), (3, x3)], [(0, 0), (3, 0)], [], h⟩
def warrantorref11_File.j0 (J : Jn (AEnd × H)) (m0 : Nat) (x0 x3 x26 : AV) (h : H) : Option (AEnd × H) := J [1, 0, 1, 0, 0, 1, 0, 0, 1] [m0] ⟨[(0, x0), (3, x3), (26, x26)], [(0, 0), (3, 0), (26, 0)], [], h⟩
theorem warrantorref11_File.f_eq {call : Cl} {n : Nat} {J : Jn (AEnd × H)} (hJ : warrantorref11_File.F call n J) (x0 : AV) (h : H) : warrantorref11_File.f J x0 h =
  warrantorref11_File.l0 J n x0 (.int .i64 0) h := (hJ _ _ _ (by kernel_rfl)).trans (by kernel_rfl)
theorem warrantorref11_File.l0_eq {call : Cl} {n : Nat} {J : Jn (AEnd × H)} (hJ : warrantorref11_File.F call n J) (m0 : Nat) (x0 x3 : AV) (h : H) : warrantorref11_File.l0 J (m0 + 1) x0 x3 h =
  (lnStr x0).bind fun v1 =>
  (bin .lss x3 v1).bind fun v2 =>
  condV v2 (
    (ixStr x0 x3).bind fun v3 =>
    (call n_warrantorref11_more [AV.canon v3] h).bind fun p4 => retOr p4.1 (fun r5p => some (AEnd.pan r5p, p4.2)) fun r5 =>
    (unOp .not r5).bind fun v6 =>
    condV v6 (
      (ixStr x0 x3).bind fun v7 =>
      (bin .neq v7 (.int .u8 45)).bind fun v8 =>
      condV v8 (
        (ixStr x0 x3).bind fun v9 =>
        (bin .neq v9 (.int .u8 47)).bind fun v10 =>
        warrantorref11_File.j0 J m0 x0 x3 v10 p4.2) (
        warrantorref11_File.j0 J m0 x0 x3 (.bool false) p4.2)) (
      warrantorref11_File.j0 J m0 x0 x3 (.bool false) p4.2)) (
    (lnStr x0).bind fun v11 =>
    (bin .gtr v11 (.int .i64 0)).bind fun v12 =>
    condV v12 (
      (lnStr x0).bind fun v13 =>
      (bin .leq v13 (.int .i64 64)).bind fun v14 =>
      condV v14 (
        (ixStr x0 (.int .i64 0)).bind fun v15 =>
        (call n_warrantorref11_letter [AV.canon v15] h).bind fun p16 => retOr p16.1 (fun r17p => some (AEnd.pan r17p, p16.2)) fun r17 =>
        some (AEnd.ret (AV.copy r17), p16.2)) (
        some (AEnd.ret (AV.copy (.bool false)), h))) (
      some (AEnd.ret (AV.copy (.bool false)), h))) := (hJ _ _ _ (by kernel_rfl)).trans (by kernel_rfl)
theorem warrantorref11_File.j0_eq {call : Cl} {n : Nat} {J : Jn (AEnd × H)} (hJ : warrantorref11_File.F call n J) (m0 : Nat) (x0 x3 x26 : AV) (h : H) : warrantorref11_File.j0 J m0 x0 x3 x26 h =
  condV x26 (
    some (AEnd.ret (.bool false), h)) (
    (bin .add x3 (.int .i64 1)).bind fun v18 =>
    warrantorref11_File.l0 J m0 x0 v18 h) := (hJ _ _ _ (by kernel_rfl)).trans (by kernel_rfl)
/-! ### warrantor/warrantorref17.Expr: function 101 -/
noncomputable def warrantorref17_Expr.A : FAnn := { nv := 4, mv := [(3, 0), (6, 4)], ld := [], lst := [], obj := [], q := [], raw := [] }
noncomputable def warrantorref17_Expr.an : Ann := .mk none .nil (.mk none (.mk none .nil (.mk none (.mk none (.mk (some [(0, 0), (3, 0)]) .nil (.mk none (.mk none (.mk none .nil (.mk (some [(0, 0), (3, 0), (19, 0)]) .nil .nil)) .nil) .nil)) .nil) .nil)) .nil)
noncomputable abbrev warrantorref17_Expr.c : Code := Tryz.f101.body.getD .skip
noncomputable def warrantorref17_Expr.J (call : Cl) (n : Nat) : Jn (AEnd × H) := realJ Tryz.prog warrantorref17_Expr.A call Tryz.f101 warrantorref17_Expr.an warrantorref17_Expr.c n
abbrev warrantorref17_Expr.F (call : Cl) (n : Nat) (J : Jn (AEnd × H)) : Prop := JFix Tryz.prog warrantorref17_Expr.A call Tryz.f101 warrantorref17_Expr.an warrantorref17_Expr.c n J
def warrantorref17_Expr.f (J : Jn (AEnd × H)) (x0 : AV) (h : H) : Option (AEnd × H) := J [] [] ⟨[(0, x0)], [], [], h⟩
def warrantorref17_Expr.l0 (J : Jn (AEnd × H)) (m0 : Nat) (x0 x3 : AV) (h : H) : Option (AEnd × H) := J [1, 0, 1, 0] [m0] ⟨[(0, x0), (3, x3)], [(0, 0), (3, 0)], [], h⟩
def warrantorref17_Expr.j0 (J : Jn (AEnd × H)) (m0 : Nat) (x0 x3 x19 : AV) (h : H) : Option (AEnd × H) := J [1, 0, 1, 0, 0, 1, 0, 0, 1] [m0] ⟨[(0, x0), (3, x3), (19, x19)], [(0, 0), (3, 0), (19, 0)], [], h⟩
theorem warrantorref17_Expr.f_eq {call : Cl} {n : Nat} {J : Jn (AEnd × H)} (hJ : warrantorref17_Expr.F call n J) (x0 : AV) (h : H) : warrantorref17_Expr.f J x0 h =
  warrantorref17_Expr.l0 J n x0 (.int .i64 0) h := (hJ _ _ _ (by kernel_rfl)).trans (by kernel_rfl)
theorem warrantorref17_Expr.l0_eq {call : Cl} {n : Nat} {J : Jn (AEnd × H)} (hJ : warrantorref17_Expr.F call n J) (m0 : Nat) (x0 x3 : AV) (h : H) : warrantorref17_Expr.l0 J (m0 + 1) x0 x3 h =
  (lnStr x0).bind fun v1 =>
  (bin .lss x3 v1).bind fun v2 =>
  condV v2 (
    (ixStr x0 x3).bind fun v3 =>
    (bin .lss v3 (.int .u8 32)).bind fun v4 =>
    condV v4 (
      warrantorref17_Expr.j0 J m0 x0 x3 (.bool true) h) (
      (ixStr x0 x3).bind fun v5 =>
      (bin .gtr v5 (.int .u8 126)).bind fun v6 =>
      warrantorref17_Expr.j0 J m0 x0 x3 v6 h)) (
    (lnStr x0).bind fun v7 =>
    (bin .geq v7 (.int .i64 1)).bind fun v8 =>
    condV v8 (
      (lnStr x0).bind fun v9 =>
      (bin .leq v9 (.int .i64 128)).bind fun v10 =>
      some (AEnd.ret (AV.copy v10), h)) (
      some (AEnd.ret (AV.copy (.bool false)), h))) := (hJ _ _ _ (by kernel_rfl)).trans (by kernel_rfl)
theorem warrantorref17_Expr.j0_eq {call : Cl} {n : Nat} {J : Jn (AEnd × H)} (hJ : warrantorref17_Expr.F call n J) (m0 : Nat) (x0 x3 x19 : AV) (h : H) : warrantorref17_Expr.j0 J m0 x0 x3 x19 h =
  condV x19 (
    some (AEnd.ret (.bool false), h)) (
    (bin .add x3 (.int .i64 1)).bind fun v11 =>
    warrantorref17_Expr.l0 J m0 x0 v11 h) := (hJ _ _ _ (by kernel_rfl)).trans (by kernel_rfl)
/-! ### slices.ContainsFunc[[]warrantor/api.Change,warrantor/api.Change]: function 102 -/
noncomputable def slices_ContainsFunc_api_Change_api_Change.A : FAnn := { nv := 4, mv := [(1, 0), (1, 1)], ld := [], lst := [], obj := [], q := [], raw := [] }
noncomputable def slices_ContainsFunc_api_Change_api_Change.an : Ann := .nil
noncomputable abbrev slices_ContainsFunc_api_Change_api_Change.c : Code := Tryz.f102.body.getD .skip
noncomputable def slices_ContainsFunc_api_Change_api_Change.J (call : Cl) (n : Nat) : Jn (AEnd × H) := realJ Tryz.prog slices_ContainsFunc_api_Change_api_Change.A call Tryz.f102 slices_ContainsFunc_api_Change_api_Change.an slices_ContainsFunc_api_Change_api_Change.c n
abbrev slices_ContainsFunc_api_Change_api_Change.F (call : Cl) (n : Nat) (J : Jn (AEnd × H)) : Prop := JFix Tryz.prog slices_ContainsFunc_api_Change_api_Change.A call Tryz.f102 slices_ContainsFunc_api_Change_api_Change.an slices_ContainsFunc_api_Change_api_Change.c n J
def slices_ContainsFunc_api_Change_api_Change.f (J : Jn (AEnd × H)) (x0 x1 : AV) (h : H) : Option (AEnd × H) := J [] [] ⟨[(0, x0), (1, x1)], [], [], h⟩
theorem slices_ContainsFunc_api_Change_api_Change.f_eq {call : Cl} {n : Nat} {J : Jn (AEnd × H)} (hJ : slices_ContainsFunc_api_Change_api_Change.F call n J) (x0 x1 : AV) (h : H) : slices_ContainsFunc_api_Change_api_Change.f J x0 x1 h =
  (call n_slices_IndexFunc_api_Change_api_Change [AV.canon x0, AV.canon x1] h).bind fun p1 => retOr p1.1 (fun r2p => some (AEnd.pan r2p, p1.2)) fun r2 =>
  (bin .geq r2 (.int .i64 0)).bind fun v3 =>
  some (AEnd.ret (AV.copy v3), p1.2) := (hJ _ _ _ (by kernel_rfl)).trans (by kernel_rfl)
/-! ### warrantor/rec.batch$1: function 103 -/
noncomputable def rec_batch_c1.A : FAnn := { nv := 2, mv := [], ld := [], lst := [], obj := [], q := [], raw := [] }
noncomputable def rec_batch_c1.an : Ann := .nil
noncomputable abbrev rec_batch_c1.c : Code := Tryz.f103.body.getD .skip
noncomputable def rec_batch_c1.J (call : Cl) (n : Nat) : Jn (AEnd × H) := realJ Tryz.prog rec_batch_c1.A call Tryz.f103 rec_batch_c1.an rec_batch_c1.c n
abbrev rec_batch_c1.F (call : Cl) (n : Nat) (J : Jn (AEnd × H)) : Prop := JFix Tryz.prog rec_batch_c1.A call Tryz.f103 rec_batch_c1.an rec_batch_c1.c n J
def rec_batch_c1.f (J : Jn (AEnd × H)) (x0 : AV) (h : H) : Option (AEnd × H) := J [] [] ⟨[(0, x0)], [], [], h⟩
theorem rec_batch_c1.f_eq {call : Cl} {n : Nat} {J : Jn (AEnd × H)} (hJ : rec_batch_c1.F call n J) (x0 : AV) (h : H) : rec_batch_c1.f J x0 h =
  (bx h (AV.copy x0)).bind fun p1 =>
  (ldAgg 11 p1.2 p1.1).bind fun v2 =>
  (call n_rec_Check [AV.canon v2] p1.2).bind fun p3 => retOr p3.1 (fun r4p => some (AEnd.pan r4p, p3.2)) fun r4 =>
  (bin .neq r4 (.int .i64 0)).bind fun v5 =>
  some (AEnd.ret (AV.copy v5), p3.2) := (hJ _ _ _ (by kernel_rfl)).trans (by kernel_rfl)
/-! ### (*warrantor/cur.Pen).put: function 104 -/
noncomputable def cur_Pen_put.A : FAnn := { nv := 4, mv := [(1, 1), (1, 5)], ld := [(1, 4)], lst := [], obj := [], q := [], raw := [] }
noncomputable def cur_Pen_put.an : Ann := .nil
noncomputable abbrev cur_Pen_put.c : Code := Tryz.f104.body.getD .skip
noncomputable def cur_Pen_put.J (call : Cl) (n : Nat) : Jn (AEnd × H) := realJ Tryz.prog cur_Pen_put.A call Tryz.f104 cur_Pen_put.an cur_Pen_put.c n
abbrev cur_Pen_put.F (call : Cl) (n : Nat) (J : Jn (AEnd × H)) : Prop := JFix Tryz.prog cur_Pen_put.A call Tryz.f104 cur_Pen_put.an cur_Pen_put.c n J
def cur_Pen_put.f (J : Jn (AEnd × H)) (x0 x1 : AV) (h : H) : Option (AEnd × H) := J [] [] ⟨[(0, x0), (1, x1)], [], [], h⟩
theorem cur_Pen_put.f_eq {call : Cl} {n : Nat} {J : Jn (AEnd × H)} (hJ : cur_Pen_put.F call n J) (x0 x1 : AV) (h : H) : cur_Pen_put.f J x0 x1 h =
  (eqv true (aeq Tryz.prog 20 84 x0 .nilPtr)).bind fun v1 =>
  condV v1 (
    (nilOk x0).bind fun v2 =>
    (fAddr 0 v2).bind fun v3 =>
    (ldTake h v3).bind fun p4 =>
    (apSlice 1 1 true true p4.2 p4.1 x1).bind fun v5 =>
    (nilOk x0).bind fun v6 =>
    (fAddr 0 v6).bind fun v7 =>
    (stN 1 p4.2 v7 v5).bind fun p8 =>
    some (AEnd.ret (.tuple []), p8.2)) (
    some (AEnd.ret (.tuple []), h)) := (hJ _ _ _ (by kernel_rfl)).trans (by kernel_rfl)
/-! ### warrantor/crc.More: function 105 -/
noncomputable def crc_More.A : FAnn := { nv := 8, mv := [(1, 0), (2, 0), (5, 0), (5, 1), (7, 0)], ld := [], lst := [], obj := [], q := [], raw := [] }
noncomputable def crc_More.an : Ann := .mk none .nil (.mk none .nil (.mk none (.mk none .nil (.mk none (.mk none (.mk (some [(5, 0), (10, 0), (11, 0), (12, 0)]) .nil .nil) .nil) .nil)) .nil))
noncomputable abbrev crc_More.c : Code := Tryz.f105.body.getD .skip
noncomputable def crc_More.J (call : Cl) (n : Nat) : Jn (AEnd × H) := realJ Tryz.prog crc_More.A call Tryz.f105 crc_More.an crc_More.c n
abbrev crc_More.F (call : Cl) (n : Nat) (J : Jn (AEnd × H)) : Prop := JFix Tryz.prog crc_More.A call Tryz.f105 crc_More.an crc_More.c n J
def crc_More.f (J : Jn (AEnd × H)) (x0 x1 : AV) (h : H) : Option (AEnd × H) := J [] [] ⟨[(0, x0), (1, x1)], [], [], h⟩
def crc_More.l0 (J : Jn (AEnd × H)) (m0 : Nat) (x5 x10 x11 x12 : AV) (h : H) : Option (AEnd × H) := J [1, 1, 0, 1, 0] [m0] ⟨[(5, x5), (10, x10), (11, x11), (12, x12)], [(5, 0), (10, 0), (11, 0), (12, 0)], [], h⟩
theorem crc_More.f_eq {call : Cl} {n : Nat} {J : Jn (AEnd × H)} (hJ : crc_More.F call n J) (x0 x1 : AV) (h : H) : crc_More.f J x0 x1 h =
  (unOp .xor x0).bind fun v1 =>
  (lnSl x1).bind fun v2 =>
  crc_More.l0 J n v1 x1 v2 (.int .i64 0) h := (hJ _ _ _ (by kernel_rfl)).trans (by kernel_rfl)
theorem crc_More.l0_eq {call : Cl} {n : Nat} {J : Jn (AEnd × H)} (hJ : crc_More.F call n J) (m0 : Nat) (x5 x10 x11 x12 : AV) (h : H) : crc_More.l0 J (m0 + 1) x5 x10 x11 x12 h =
  (bin .lss x12 x11).bind fun v3 =>
  condV v3 (
    (ixSlice 1 x10 x12).bind fun v4 =>
    (ldCell h v4).bind fun v5 =>
    (cvInt .u32 v5).bind fun v6 =>
    (bin .xor x5 v6).bind fun v7 =>
    (call n_crc_bits [AV.canon v7, AV.canon (.int .i64 8)] h).bind fun p8 => retOr p8.1 (fun r9p => some (AEnd.pan r9p, p8.2)) fun r9 =>
    (bin .add x12 (.int .i64 1)).bind fun v10 =>
    crc_More.l0 J m0 r9 x10 x11 v10 p8.2) (
    (unOp .xor x5).bind fun v11 =>
    some (AEnd.ret (AV.copy v11), h)) := (hJ _ _ _ (by kernel_rfl)).trans (by kernel_rfl)
/-! ### slices.Clone[[]byte,byte]: function 106 -/
noncomputable def slices_Clone_byte_byte.A : FAnn := { nv := 2, mv := [(3, 1)], ld := [], lst := [], obj := [], q := [], raw := [] }
noncomputable def slices_Clone_byte_byte.an : Ann := .nil
noncomputable abbrev slices_Clone_byte_byte.c : Code := Tryz.f106.body.getD .skip
noncomputable def slices_Clone_byte_byte.J (call : Cl) (n : Nat) : Jn (AEnd × H) := realJ Tryz.prog slices_Clone_byte_byte.A call Tryz.f106 slices_Clone_byte_byte.an slices_Clone_byte_byte.c n
abbrev slices_Clone_byte_byte.F (call : Cl) (n : Nat) (J : Jn (AEnd × H)) : Prop := JFix Tryz.prog slices_Clone_byte_byte.A call Tryz.f106 slices_Clone_byte_byte.an slices_Clone_byte_byte.c n J
def slices_Clone_byte_byte.f (J : Jn (AEnd × H)) (x0 : AV) (h : H) : Option (AEnd × H) := J [] [] ⟨[(0, x0)], [], [], h⟩
theorem slices_Clone_byte_byte.f_eq {call : Cl} {n : Nat} {J : Jn (AEnd × H)} (hJ : slices_Clone_byte_byte.F call n J) (x0 : AV) (h : H) : slices_Clone_byte_byte.f J x0 h =
  (slNil false x0).bind fun v1 =>
  condV v1 (
    some (AEnd.ret (.list [] .cap), h)) (
    (mkRows 1 [.int .u8 0] 0 []).bind fun v2 =>
    (apSlice 1 1 true false h v2 x0).bind fun v3 =>
    some (AEnd.ret v3, h)) := (hJ _ _ _ (by kernel_rfl)).trans (by kernel_rfl)
/-! ### warrantor/cur.ask[string]: function 107 -/
noncomputable def cur_ask_string.A : FAnn := { nv := 6, mv := [(5, 0)], ld := [], lst := [], obj := [], q := [], raw := [], df := [(145, { nv := 6, mv := [(1, 0), (3, 2)], ld := [], raw := [] })] }
noncomputable def cur_ask_string.an : Ann := .mk none .nil (.mk none (.mk none .nil (.mk (some [(1, 0), (2, 0), (4, 0), (14, 0)]) .nil .nil)) (.mk (some [(1, 0), (2, 0), (4, 0)]) .nil .nil))
noncomputable abbrev cur_ask_string.c : Code := Tryz.f107.body.getD .skip
noncomputable abbrev cur_ask_string.dc (call : Cl) (n : Nat) := dcall Tryz.prog cur_ask_string.A call n
theorem cur_ask_string.d145_eq {call : Cl} {n : Nat} (x0 x1 x2 : AV) (h : H) (v : AV) : cur_ask_string.dc call n n_cur_ask_string__c1 [x0, x1, x2] h v =
  (taTo (.agg [.int .i64 0]) t_cur_broken true v).bind fun v1 =>
  (exTuple 0 v1).bind fun v2 =>
  (exTuple 1 v1).bind fun v3 =>
  let h4 : H := h ++ [.arr [.int .i64 0] false]
  (stN 1 h4 (.ptr h.length 0) (AV.copy v2)).bind fun p5 =>
  condV v3 (
    (ldCell p5.2 x2).bind fun v6 =>
    (ldCell p5.2 x2).bind fun v7 =>
    (ldCell p5.2 x0).bind fun v8 =>
    (fAddr 0 (.ptr h.length 0)).bind fun v9 =>
    (ldCell p5.2 v9).bind fun v10 =>
    (stN 1 p5.2 x1 (.str [])).bind fun p11 =>
    whenB (eqO (ldCell p11.2 v9) v10) (
      (nilOk v6).bind fun v12 =>
      (fAddr 1 v12).bind fun v13 =>
      (stN 1 p11.2 v13 (AV.copy v8)).bind fun p14 =>
      whenB (eqO (ldCell p14.2 v9) v10) (
        (nilOk v7).bind fun v15 =>
        (fAddr 2 v15).bind fun v16 =>
        (stN 1 p14.2 v16 (AV.copy v10)).bind fun p17 =>
        some p17.2))) (
    some p5.2) := (dcall_eq (P := Tryz.prog) (A := cur_ask_string.A) (f := 145) (d := { nv := 6, mv := [(1, 0), (3, 2)], ld := [], raw := [] }) (c := Tryz.f145.body.getD .skip) (args := [x0, x1, x2]) (by kernel_rfl) Tryz.func145 (by kernel_rfl) (by kernel_rfl)).trans (by kernel_rfl)
noncomputable def cur_ask_string.J (call : Cl) (n : Nat) : Jn (AEnd × H) := realJ Tryz.prog cur_ask_string.A call Tryz.f107 cur_ask_string.an cur_ask_string.c n
abbrev cur_ask_string.F (call : Cl) (n : Nat) (J : Jn (AEnd × H)) : Prop := JFix Tryz.prog cur_ask_string.A call Tryz.f107 cur_ask_string.an cur_ask_string.c n J
def cur_ask_string.f (J : Jn (AEnd × H)) (x0 x1 : AV) (h : H) : Option (AEnd × H) := J [] [] ⟨[(0, x0), (1, x1)], [], [], h⟩
def cur_ask_string.j1 (J : Jn (AEnd × H)) (x1 x2 x4 x14 : AV) (h : H) : Option (AEnd × H) := J [1, 0, 1] [] ⟨[(1, x1), (2, x2), (4, x4), (14, x14)], [(1, 0), (2, 0), (4, 0), (14, 0)], [], h⟩
def cur_ask_string.j0 (J : Jn (AEnd × H)) (x1 x2 x4 : AV) (h : H) : Option (AEnd × H) := J [1, 1] [] ⟨[(1, x1), (2, x2), (4, x4)], [(1, 0), (2, 0), (4, 0)], [], h⟩
theorem cur_ask_string.f_eq {call : Cl} {n : Nat} {J : Jn (AEnd × H)} (hJ : cur_ask_string.F call n J) (x0 x1 : AV) (h : H) : cur_ask_string.f J x0 x1 h =
  (bx h (AV.copy x0)).bind fun p1 =>
  let h2 : H := p1.2 ++ [.arr [.str []] false]
  (ldCell h2 p1.1).bind fun v3 =>
  (eqv false (aeq Tryz.prog 20 90 v3 .nilPtr)).bind fun v4 =>
  condV v4 (
    cur_ask_string.j1 J  x1 p1.1 (.ptr p1.2.length 0) (.bool true) h2) (
    (ldCell h2 p1.1).bind fun v5 =>
    (nilOk v5).bind fun v6 =>
    (fAddr 2 v6).bind fun v7 =>
    (ldCell h2 v7).bind fun v8 =>
    (bin .neq v8 (.int .i64 0)).bind fun v9 =>
    cur_ask_string.j1 J  x1 p1.1 (.ptr p1.2.length 0) v9 h2) := (hJ _ _ _ (by kernel_rfl)).trans (by kernel_rfl)
theorem cur_ask_string.j1_eq {call : Cl} {n : Nat} {J : Jn (AEnd × H)} (hJ : cur_ask_string.F call n J) (x1 x2 x4 x14 : AV) (h : H) : cur_ask_string.j1 J  x1 x2 x4 x14 h =
  condV x14 (
    (ldCell h x4).bind fun v10 =>
    (stN 1 h x4 (AV.copy v10)).bind fun p11 =>
    (resN [(ldCell p11.2 x4).map AV.copy]).map fun v => (AEnd.ret v, p11.2)) (
    cur_ask_string.j0 J  x1 x2 x4 h) := (hJ _ _ _ (by kernel_rfl)).trans (by kernel_rfl)
theorem cur_ask_string.j0_eq {call : Cl} {n : Nat} {J : Jn (AEnd × H)} (hJ : cur_ask_string.F call n J) (x1 x2 x4 : AV) (h : H) : cur_ask_string.j0 J  x1 x2 x4 h =
  (ldCell h x2).bind fun v12 =>
  (nilOk v12).bind fun v13 =>
  (fAddr 1 v13).bind fun v14 =>
  (ldCell h v14).bind fun v15 =>
  let h16 : H := h ++ [.arr [.int .i64 0] false]
  (stN 1 h16 (.ptr h.length 0) (AV.copy v15)).bind fun p17 =>
  (ldCell p17.2 x2).bind fun v18 =>
  (callVal call p17.2 x1 [AV.canon v18]).bind fun p19 => retOr p19.1 (fun r20p => (cur_ask_string.dc call n n_cur_ask_string__c1 [AV.copy (.ptr h.length 0), AV.copy x4, AV.copy x2] p19.2 r20p).bind fun h23 =>
  (resN [(ldCell h23 x4).map AV.copy]).map fun v => (AEnd.ret v, h23)) fun r20 =>
  (stN 1 p19.2 x4 r20).bind fun p21 =>
  (cur_ask_string.dc call n n_cur_ask_string__c1 [AV.copy (.ptr h.length 0), AV.copy x4, AV.copy x2] p21.2 .nilIface).bind fun h22 =>
  (resN [(ldCell h22 x4).map AV.copy]).map fun v => (AEnd.ret v, h22) := (hJ _ _ _ (by kernel_rfl)).trans (by kernel_rfl)
/-! ### (*warrantor/cur.Reader).Text$1: function 108 -/
noncomputable def cur_Reader_Text_c1.A : FAnn := { nv := 3, mv := [(1, 1)], ld := [], lst := [], obj := [], q := [], raw := [] }
noncomputable def cur_Reader_Text_c1.an : Ann := .nil
noncomputable abbrev cur_Reader_Text_c1.c : Code := Tryz.f108.body.getD .skip
noncomputable def cur_Reader_Text_c1.J (call : Cl) (n : Nat) : Jn (AEnd × H) := realJ Tryz.prog cur_Reader_Text_c1.A call Tryz.f108 cur_Reader_Text_c1.an cur_Reader_Text_c1.c n
abbrev cur_Reader_Text_c1.F (call : Cl) (n : Nat) (J : Jn (AEnd × H)) : Prop := JFix Tryz.prog cur_Reader_Text_c1.A call Tryz.f108 cur_Reader_Text_c1.an cur_Reader_Text_c1.c n J
def cur_Reader_Text_c1.f (J : Jn (AEnd × H)) (x0 x1 : AV) (h : H) : Option (AEnd × H) := J [] [] ⟨[(0, x0), (1, x1)], [], [], h⟩
theorem cur_Reader_Text_c1.f_eq {call : Cl} {n : Nat} {J : Jn (AEnd × H)} (hJ : cur_Reader_Text_c1.F call n J) (x0 x1 : AV) (h : H) : cur_Reader_Text_c1.f J x0 x1 h =
  (ldCell h x1).bind fun v1 =>
  (call n_cur_Reader_upto [AV.canon x0, AV.canon v1] h).bind fun p2 => retOr p2.1 (fun r3p => some (AEnd.pan r3p, p2.2)) fun r3 =>
  (call n_cur_Reader_take [AV.canon x0, AV.canon r3] p2.2).bind fun p4 => retOr p4.1 (fun r5p => some (AEnd.pan r5p, p4.2)) fun r5 =>
  (bytesStr p4.2 r5).bind fun v6 =>
  some (AEnd.ret v6, p4.2) := (hJ _ _ _ (by kernel_rfl)).trans (by kernel_rfl)
/-! ### (*warrantor/cur.Reader).take: function 109 -/
noncomputable def cur_Reader_take.A : FAnn := { nv := 4, mv := [(4, 8), (4, 10)], ld := [], lst := [], obj := [], q := [], raw := [] }
noncomputable def cur_Reader_take.an : Ann := .mk none .nil (.mk none .nil (.mk (some [(0, 0), (1, 0)]) .nil .nil))
noncomputable abbrev cur_Reader_take.c : Code := Tryz.f109.body.getD .skip
noncomputable def cur_Reader_take.J (call : Cl) (n : Nat) : Jn (AEnd × H) := realJ Tryz.prog cur_Reader_take.A call Tryz.f109 cur_Reader_take.an cur_Reader_take.c n
abbrev cur_Reader_take.F (call : Cl) (n : Nat) (J : Jn (AEnd × H)) : Prop := JFix Tryz.prog cur_Reader_take.A call Tryz.f109 cur_Reader_take.an cur_Reader_take.c n J
def cur_Reader_take.f (J : Jn (AEnd × H)) (x0 x1 : AV) (h : H) : Option (AEnd × H) := J [] [] ⟨[(0, x0), (1, x1)], [], [], h⟩
def cur_Reader_take.j0 (J : Jn (AEnd × H)) (x0 x1 : AV) (h : H) : Option (AEnd × H) := J [1, 1] [] ⟨[(0, x0), (1, x1)], [(0, 0), (1, 0)], [], h⟩
theorem cur_Reader_take.f_eq {call : Cl} {n : Nat} {J : Jn (AEnd × H)} (hJ : cur_Reader_take.F call n J) (x0 x1 : AV) (h : H) : cur_Reader_take.f J x0 x1 h =
  (nilOk x0).bind fun v1 =>
  (fAddr 0 v1).bind fun v2 =>
  (ldCell h v2).bind fun v3 =>
  (lnSl v3).bind fun v4 =>
  (nilOk x0).bind fun v5 =>
  (fAddr 1 v5).bind fun v6 =>
  (ldCell h v6).bind fun v7 =>
  (bin .sub v4 v7).bind fun v8 =>
  (bin .gtr x1 v8).bind fun v9 =>
  condV v9 (
    (mkAgg [.int .i64 0] [(0, 1, AV.copy (.int .i64 10))]).bind fun v10 =>
    panOr (.iface t_cur_broken (AV.copy v10)) fun w => some (AEnd.pan w, h)) (
    cur_Reader_take.j0 J  x0 x1 h) := (hJ _ _ _ (by kernel_rfl)).trans (by kernel_rfl)
theorem cur_Reader_take.j0_eq {call : Cl} {n : Nat} {J : Jn (AEnd × H)} (hJ : cur_Reader_take.F call n J) (x0 x1 : AV) (h : H) : cur_Reader_take.j0 J  x0 x1 h =
  (nilOk x0).bind fun v11 =>
  (fAddr 1 v11).bind fun v12 =>
  (ldCell h v12).bind fun v13 =>
  (bin .add v13 x1).bind fun v14 =>
  (nilOk x0).bind fun v15 =>
  (fAddr 1 v15).bind fun v16 =>
  (stN 1 h v16 (AV.copy v14)).bind fun p17 =>
  (nilOk x0).bind fun v18 =>
  (fAddr 0 v18).bind fun v19 =>
  (ldCell p17.2 v19).bind fun v20 =>
  (nilOk x0).bind fun v21 =>
  (fAddr 1 v21).bind fun v22 =>
  (ldCell p17.2 v22).bind fun v23 =>
  (bin .sub v23 x1).bind fun v24 =>
  (nilOk x0).bind fun v25 =>
  (fAddr 1 v25).bind fun v26 =>
  (ldCell p17.2 v26).bind fun v27 =>
  (slSlice 1 v20 (some v24) (some v27) none).bind fun v28 =>
  some (AEnd.ret (AV.copy v28), p17.2) := (hJ _ _ _ (by kernel_rfl)).trans (by kernel_rfl)
/-! ### (*warrantor/cur.Reader).upto: function 110 -/
noncomputable def cur_Reader_upto.A : FAnn := { nv := 6, mv := [(1, 0), (2, 4), (4, 0)], ld := [], lst := [], obj := [], q := [], raw := [] }
noncomputable def cur_Reader_upto.an : Ann := .mk none .nil (.mk none .nil (.mk none (.mk none .nil (.mk (some [(5, 255), (15, 0)]) .nil .nil)) .nil))
noncomputable abbrev cur_Reader_upto.c : Code := Tryz.f110.body.getD .skip
noncomputable def cur_Reader_upto.J (call : Cl) (n : Nat) : Jn (AEnd × H) := realJ Tryz.prog cur_Reader_upto.A call Tryz.f110 cur_Reader_upto.an cur_Reader_upto.c n
abbrev cur_Reader_upto.F (call : Cl) (n : Nat) (J : Jn (AEnd × H)) : Prop := JFix Tryz.prog cur_Reader_upto.A call Tryz.f110 cur_Reader_upto.an cur_Reader_upto.c n J
def cur_Reader_upto.f (J : Jn (AEnd × H)) (x0 x1 : AV) (h : H) : Option (AEnd × H) := J [] [] ⟨[(0, x0), (1, x1)], [], [], h⟩
def cur_Reader_upto.j0 (J : Jn (AEnd × H)) (x5 x15 : AV) (h : H) : Option (AEnd × H) := J [1, 1, 0, 1] [] ⟨[(5, x5), (15, x15)], [(5, 255), (15, 0)], [], h⟩
theorem cur_Reader_upto.f_eq {call : Cl} {n : Nat} {J : Jn (AEnd × H)} (hJ : cur_Reader_upto.F call n J) (x0 x1 : AV) (h : H) : cur_Reader_upto.f J x0 x1 h =
  (call n_cur_Reader_number [AV.canon x0] h).bind fun p1 => retOr p1.1 (fun r2p => some (AEnd.pan r2p, p1.2)) fun r2 =>
  (bin .lss x1 (.int .i64 0)).bind fun v3 =>
  condV v3 (
    cur_Reader_upto.j0 J  r2 (.bool true) p1.2) (
    (cvInt .u64 x1).bind fun v4 =>
    (bin .gtr r2 v4).bind fun v5 =>
    cur_Reader_upto.j0 J  r2 v5 p1.2) := (hJ _ _ _ (by kernel_rfl)).trans (by kernel_rfl)
theorem cur_Reader_upto.j0_eq {call : Cl} {n : Nat} {J : Jn (AEnd × H)} (hJ : cur_Reader_upto.F call n J) (x5 x15 : AV) (h : H) : cur_Reader_upto.j0 J  x5 x15 h =
  condV x15 (
    (mkAgg [.int .i64 0] [(0, 1, AV.copy (.int .i64 3))]).bind fun v6 =>
    panOr (.iface t_cur_broken (AV.copy v6)) fun w => some (AEnd.pan w, h)) (
    (cvInt .i64 x5).bind fun v7 =>
    some (AEnd.ret v7, h)) := (hJ _ _ _ (by kernel_rfl)).trans (by kernel_rfl)
/-! ### warrantor/cur.ask[uint32]: function 111 -/
noncomputable def cur_ask_uint32.A : FAnn := { nv := 6, mv := [(5, 0)], ld := [], lst := [], obj := [], q := [], raw := [], df := [(147, { nv := 6, mv := [(1, 0), (3, 2)], ld := [], raw := [] })] }
noncomputable def cur_ask_uint32.an : Ann := .mk none .nil (.mk none (.mk none .nil (.mk (some [(1, 0), (2, 0), (4, 0), (14, 0)]) .nil .nil)) (.mk (some [(1, 0), (2, 0), (4, 0)]) .nil .nil))
noncomputable abbrev cur_ask_uint32.c : Code := Tryz.f111.body.getD .skip
noncomputable abbrev cur_ask_uint32.dc (call : Cl) (n : Nat) := dcall Tryz.prog cur_ask_uint32.A call n
theorem cur_ask_uint32.d147_eq {call : Cl} {n : Nat} (x0 x1 x2 : AV) (h : H) (v : AV) : cur_ask_uint32.dc call n n_cur_ask_uint32__c1 [x0, x1, x2] h v =
  (taTo (.agg [.int .i64 0]) t_cur_broken true v).bind fun v1 =>
  (exTuple 0 v1).bind fun v2 =>
  (exTuple 1 v1).bind fun v3 =>
  let h4 : H := h ++ [.arr [.int .i64 0] false]
  (stN 1 h4 (.ptr h.length 0) (AV.copy v2)).bind fun p5 =>
  condV v3 (
    (ldCell p5.2 x2).bind fun v6 =>
    (ldCell p5.2 x2).bind fun v7 =>
    (ldCell p5.2 x0).bind fun v8 =>
    (fAddr 0 (.ptr h.length 0)).bind fun v9 =>
    (ldCell p5.2 v9).bind fun v10 =>
    (stN 1 p5.2 x1 (.int .u32 0)).bind fun p11 =>
    whenB (eqO (ldCell p11.2 v9) v10) (
      (nilOk v6).bind fun v12 =>
      (fAddr 1 v12).bind fun v13 =>
      (stN 1 p11.2 v13 (AV.copy v8)).bind fun p14 =>
      whenB (eqO (ldCell p14.2 v9) v10) (
        (nilOk v7).bind fun v15 =>
        (fAddr 2 v15).bind fun v16 =>
        (stN 1 p14.2 v16 (AV.copy v10)).bind fun p17 =>
        some p17.2))) (
    some p5.2) := (dcall_eq (P := Tryz.prog) (A := cur_ask_uint32.A) (f := 147) (d := { nv := 6, mv := [(1, 0), (3, 2)], ld := [], raw := [] }) (c := Tryz.f147.body.getD .skip) (args := [x0, x1, x2]) (by kernel_rfl) Tryz.func147 (by kernel_rfl) (by kernel_rfl)).trans (by kernel_rfl)
noncomputable def cur_ask_uint32.J (call : Cl) (n : Nat) : Jn (AEnd × H) := realJ Tryz.prog cur_ask_uint32.A call Tryz.f111 cur_ask_uint32.an cur_ask_uint32.c n
abbrev cur_ask_uint32.F (call : Cl) (n : Nat) (J : Jn (AEnd × H)) : Prop := JFix Tryz.prog cur_ask_uint32.A call Tryz.f111 cur_ask_uint32.an cur_ask_uint32.c n J
def cur_ask_uint32.f (J : Jn (AEnd × H)) (x0 x1 : AV) (h : H) : Option (AEnd × H) := J [] [] ⟨[(0, x0), (1, x1)], [], [], h⟩
def cur_ask_uint32.j1 (J : Jn (AEnd × H)) (x1 x2 x4 x14 : AV) (h : H) : Option (AEnd × H) := J [1, 0, 1] [] ⟨[(1, x1), (2, x2), (4, x4), (14, x14)], [(1, 0), (2, 0), (4, 0), (14, 0)], [], h⟩
def cur_ask_uint32.j0 (J : Jn (AEnd × H)) (x1 x2 x4 : AV) (h : H) : Option (AEnd × H) := J [1, 1] [] ⟨[(1, x1), (2, x2), (4, x4)], [(1, 0), (2, 0), (4, 0)], [], h⟩
theorem cur_ask_uint32.f_eq {call : Cl} {n : Nat} {J : Jn (AEnd × H)} (hJ : cur_ask_uint32.F call n J) (x0 x1 : AV) (h : H) : cur_ask_uint32.f J x0 x1 h =
  (bx h (AV.copy x0)).bind fun p1 =>
  let h2 : H := p1.2 ++ [.arr [.int .u32 0] false]
  (ldCell h2 p1.1).bind fun v3 =>
  (eqv false (aeq Tryz.prog 20 90 v3 .nilPtr)).bind fun v4 =>
  condV v4 (
    cur_ask_uint32.j1 J  x1 p1.1 (.ptr p1.2.length 0) (.bool true) h2) (
    (ldCell h2 p1.1).bind fun v5 =>
    (nilOk v5).bind fun v6 =>
    (fAddr 2 v6).bind fun v7 =>
    (ldCell h2 v7).bind fun v8 =>
    (bin .neq v8 (.int .i64 0)).bind fun v9 =>
    cur_ask_uint32.j1 J  x1 p1.1 (.ptr p1.2.length 0) v9 h2) := (hJ _ _ _ (by kernel_rfl)).trans (by kernel_rfl)
theorem cur_ask_uint32.j1_eq {call : Cl} {n : Nat} {J : Jn (AEnd × H)} (hJ : cur_ask_uint32.F call n J) (x1 x2 x4 x14 : AV) (h : H) : cur_ask_uint32.j1 J  x1 x2 x4 x14 h =
  condV x14 (
    (ldCell h x4).bind fun v10 =>
    (stN 1 h x4 (AV.copy v10)).bind fun p11 =>
    (resN [(ldCell p11.2 x4).map AV.copy]).map fun v => (AEnd.ret v, p11.2)) (
    cur_ask_uint32.j0 J  x1 x2 x4 h) := (hJ _ _ _ (by kernel_rfl)).trans (by kernel_rfl)
theorem cur_ask_uint32.j0_eq {call : Cl} {n : Nat} {J : Jn (AEnd × H)} (hJ : cur_ask_uint32.F call n J) (x1 x2 x4 : AV) (h : H) : cur_ask_uint32.j0 J  x1 x2 x4 h =
  (ldCell h x2).bind fun v12 =>
  (nilOk v12).bind fun v13 =>
  (fAddr 1 v13).bind fun v14 =>
  (ldCell h v14).bind fun v15 =>
  let h16 : H := h ++ [.arr [.int .i64 0] false]
  (stN 1 h16 (.ptr h.length 0) (AV.copy v15)).bind fun p17 =>
  (ldCell p17.2 x2).bind fun v18 =>
  (callVal call p17.2 x1 [AV.canon v18]).bind fun p19 => retOr p19.1 (fun r20p => (cur_ask_uint32.dc call n n_cur_ask_uint32__c1 [AV.copy (.ptr h.length 0), AV.copy x4, AV.copy x2] p19.2 r20p).bind fun h23 =>
  (resN [(ldCell h23 x4).map AV.copy]).map fun v => (AEnd.ret v, h23)) fun r20 =>
  (stN 1 p19.2 x4 r20).bind fun p21 =>
  (cur_ask_uint32.dc call n n_cur_ask_uint32__c1 [AV.copy (.ptr h.length 0), AV.copy x4, AV.copy x2] p21.2 .nilIface).bind fun h22 =>
  (resN [(ldCell h22 x4).map AV.copy]).map fun v => (AEnd.ret v, h22) := (hJ _ _ _ (by kernel_rfl)).trans (by kernel_rfl)
/-! ### (*warrantor/cur.Reader).word: function 112 -/
noncomputable def cur_Reader_word.A : FAnn := { nv := 6, mv := [(2, 0), (5, 0), (5, 1), (5, 3), (7, 0)], ld := [], lst := [], obj := [], q := [], raw := [] }
noncomputable def cur_Reader_word.an : Ann := .mk none .nil (.mk none .nil (.mk none (.mk none .nil (.mk none (.mk none (.mk (some [(3, 0), (7, 255), (8, 0), (9, 0)]) .nil .nil) .nil) .nil)) .nil))
noncomputable abbrev cur_Reader_word.c : Code := Tryz.f112.body.getD .skip
noncomputable def cur_Reader_word.J (call : Cl) (n : Nat) : Jn (AEnd × H) := realJ Tryz.prog cur_Reader_word.A call Tryz.f112 cur_Reader_word.an cur_Reader_word.c n
abbrev cur_Reader_word.F (call : Cl) (n : Nat) (J : Jn (AEnd × H)) : Prop := JFix Tryz.prog cur_Reader_word.A call Tryz.f112 cur_Reader_word.an cur_Reader_word.c n J
def cur_Reader_word.f (J : Jn (AEnd × H)) (x0 : AV) (h : H) : Option (AEnd × H) := J [] [] ⟨[(0, x0)], [], [], h⟩
def cur_Reader_word.l0 (J : Jn (AEnd × H)) (m0 : Nat) (x3 x7 x8 x9 : AV) (h : H) : Option (AEnd × H) := J [1, 1, 0, 1, 0] [m0] ⟨[(3, x3), (7, x7), (8, x8), (9, x9)], [(3, 0), (7, 255), (8, 0), (9, 0)], [], h⟩
theorem cur_Reader_word.f_eq {call : Cl} {n : Nat} {J : Jn (AEnd × H)} (hJ : cur_Reader_word.F call n J) (x0 : AV) (h : H) : cur_Reader_word.f J x0 h =
  (call n_cur_Reader_take [AV.canon x0, AV.canon (.int .i64 4)] h).bind fun p1 => retOr p1.1 (fun r2p => some (AEnd.pan r2p, p1.2)) fun r2 =>
  (lnSl r2).bind fun v3 =>
  cur_Reader_word.l0 J n (.int .u32 0) r2 v3 (.int .i64 0) p1.2 := (hJ _ _ _ (by kernel_rfl)).trans (by kernel_rfl)
theorem cur_Reader_word.l0_eq {call : Cl} {n : Nat} {J : Jn (AEnd × H)} (hJ : cur_Reader_word.F call n J) (m0 : Nat) (x3 x7 x8 x9 : AV) (h : H) : cur_Reader_word.l0 J (m0 + 1) x3 x7 x8 x9 h =
  (bin .lss x9 x8).bind fun v4 =>
  condV v4 (
    (ixSlice 1 x7 x9).bind fun v5 =>
    (ldCell h v5).bind fun v6 =>
    (cvInt .u32 v6).bind fun v7 =>
    (bin .mul (.int .i64 8) x9).bind fun v8 =>
    (bin .shl v7 v8).bind fun v9 =>
    (bin .or x3 v9).bind fun v10 =>
    (bin .add x9 (.int .i64 1)).bind fun v11 =>
    cur_Reader_word.l0 J m0 v10 x7 x8 v11 h) (
    some (AEnd.ret (AV.copy x3), h)) := (hJ _ _ _ (by kernel_rfl)).trans (by kernel_rfl)
/-! ### warrantor/rec.changes: function 114 -/
noncomputable def rec_changes.A : FAnn := { nv := 8, mv := [(11, 0), (14, 0), (17, 11), (18, 0)], ld := [], lst := [], obj := [], q := [], raw := [] }
noncomputable def rec_changes.an : Ann := .mk none .nil (.mk none .nil (.mk none .nil (.mk none (.mk none .nil (.mk none (.mk none (.mk (some [(0, 0), (3, 0), (4, 255), (13, 255), (14, 0)]) .nil (.mk none .nil (.mk none (.mk none (.mk none .nil (.mk none .nil (.mk none .nil (.mk none (.mk none .nil (.mk none (.mk none (.mk (some [(0, 0), (3, 0), (4, 255), (5, 0), (13, 255), (14, 0), (40, 0), (41, 0), (42, 0)]) .nil .nil) .nil) .nil)) .nil)))) .nil) .nil))) .nil) .nil)) .nil)))
noncomputable abbrev rec_changes.c : Code := Tryz.f114.body.getD .skip
noncomputable def rec_changes.J (call : Cl) (n : Nat) : Jn (AEnd × H) := realJ Tryz.prog rec_changes.A call Tryz.f114 rec_changes.an rec_changes.c n
abbrev rec_changes.F (call : Cl) (n : Nat) (J : Jn (AEnd × H)) : Prop := JFix Tryz.prog rec_changes.A call Tryz.f114 rec_changes.an rec_changes.c n J
def rec_changes.f (J : Jn (AEnd × H)) (x0 : AV) (h : H) : Option (AEnd × H) := J [] [] ⟨[(0, x0)], [], [], h⟩
def rec_changes.l0 (J : Jn (AEnd × H)) (m0 : Nat) (x0 x3 x4 x13 x14 : AV) (h : H) : Option (AEnd × H) := J [1, 1, 1, 0, 1, 0] [m0] ⟨[(0, x0), (3, x3), (4, x4), (13, x13), (14, x14)], [(0, 0), (3, 0), (4, 255), (13, 255), (14, 0)], [], h⟩
def rec_changes.l1 (J : Jn (AEnd × H)) (m0 m1 : Nat) (x0 x3 x4 x5 x13 x14 x40 x41 x42 : AV) (h : H) : Option (AEnd × H) := J [1, 1, 1, 0, 1, 0, 0, 1, 1, 0, 0, 1, 1, 1, 0, 1, 0] [m0, m1] ⟨[(0, x0), (3, x3), (4, x4), (5, x5), (13, x13), (14, x14), (40, x40), (41, x41), (42, x42)], [(0, 0), (3, 0), (4, 255), (5, 0), (13, 255), (14, 0), (40, 0), (41, 0), (42, 0)], [], h⟩
theorem rec_changes.f_eq {call : Cl} {n : Nat} {J : Jn (AEnd × H)} (hJ : rec_changes.F call n J) (x0 : AV) (h : H) : rec_changes.f J x0 h =
  (call n_cur_From [AV.canon x0] h).bind fun p1 => retOr p1.1 (fun r2p => some (AEnd.pan r2p, p1.2)) fun r2 =>
  (mkAgg [.nilPtr] [(0, 1, AV.copy r2)]).bind fun v3 =>
  let h4 : H := p1.2 ++ [.arr [.nilPtr] false]
  (stN 1 h4 (.ptr p1.2.length 0) v3).bind fun p5 =>
  (fAddr 0 (.ptr p1.2.length 0)).bind fun v6 =>
  (ldCell p5.2 v6).bind fun v7 =>
  (call n_cur_Reader_Count [AV.canon v7, AV.canon (.int .i64 512)] p5.2).bind fun p8 => retOr p8.1 (fun r9p => some (AEnd.pan r9p, p8.2)) fun r9 =>
  rec_changes.l0 J n x0 (.ptr p1.2.length 0) (.list [] .cap) r9 (.int .i64 0) p8.2 := (hJ _ _ _ (by kernel_rfl)).trans (by kernel_rfl)
theorem rec_changes.l0_eq {call : Cl} {n : Nat} {J : Jn (AEnd × H)} (hJ : rec_changes.F call n J) (m0 : Nat) (x0 x3 x4 x13 x14 : AV) (h : H) : rec_changes.l0 J (m0 + 1) x0 x3 x4 x13 x14 h =
  (bin .lss x14 x13).bind fun v10 =>
  condV v10 (
    (ldAgg 1 h x3).bind fun v11 =>
    (call n_rec_taker_num [AV.canon v11] h).bind fun p12 => retOr p12.1 (fun r13p => some (AEnd.pan r13p, p12.2)) fun r13 =>
    (mkAgg [.int .i64 0, .int .u64 0, .int .i64 0, .int .i64 0, .str [], .str [], .int .i64 0, .str [], .int .i64 0, .int .i64 0, .str []] [(0, 1, AV.copy r13)]).bind fun v14 =>
    let h15 : H := p12.2 ++ [.arr [.int .i64 0, .int .u64 0, .int .i64 0, .int .i64 0, .str [], .str [], .int .i64 0, .str [], .int .i64 0, .int .i64 0, .str []] false]
    (stN 11 h15 (.ptr p12.2.length 0) v14).bind fun p16 =>
    (fAddr 0 x3).bind fun v17 =>
    (ldCell p16.2 v17).bind fun v18 =>
    (call n_cur_Reader_Word [AV.canon v18] p16.2).bind fun p19 => retOr p19.1 (fun r20p => some (AEnd.pan r20p, p19.2)) fun r20 =>
    (cvInt .u64 r20).bind fun v21 =>
    (fAddr 1 (.ptr p12.2.length 0)).bind fun v22 =>
    (fAddr 0 v22).bind fun v23 =>
    (stN 1 p19.2 v23 v21).bind fun p24 =>
    (fAddr 1 (.ptr p12.2.length 0)).bind fun v25 =>
    (fAddr 0 v25).bind fun v26 =>
    (ldCell p24.2 v26).bind fun v27 =>
    (fAddr 0 x3).bind fun v28 =>
    (ldCell p24.2 v28).bind fun v29 =>
    (call n_cur_Reader_Word [AV.canon v29] p24.2).bind fun p30 => retOr p30.1 (fun _ => none) fun r31 =>
    whenB (eqO (ldCell p30.2 v26) v27) (
      (cvInt .u64 r31).bind fun v32 =>
      (bin .shl v32 (.int .u64 32)).bind fun v33 =>
      (bin .or v27 v33).bind fun v34 =>
      (fAddr 1 (.ptr p12.2.length 0)).bind fun v35 =>
      (fAddr 0 v35).bind fun v36 =>
      (stN 1 p30.2 v36 (AV.copy v34)).bind fun p37 =>
      (call n_rec_kinds [] p37.2).bind fun p38 => retOr p38.1 (fun _ => none) fun r39 =>
      (fAddr 0 (.ptr p12.2.length 0)).bind fun v40 =>
      (ldCell p38.2 v40).bind fun v41 =>
      whenB (eqO (ldCell p37.2 v40) v41) (
        (lkMap .int (.agg [.list [] .cap, .list [] .cap, .nilFunc]) p38.2 r39 v41 false).bind fun v42 =>
        (fCell 1 v42).bind fun v43 =>
        (lnSl v43).bind fun v44 =>
        rec_changes.l1 J m0 n x0 x3 x4 (.ptr p12.2.length 0) x13 x14 v43 v44 (.int .i64 0) p38.2))) (
    (fAddr 0 x3).bind fun v45 =>
    (ldCell h v45).bind fun v46 =>
    (call n_cur_Reader_End [AV.canon v46] h).bind fun p47 => retOr p47.1 (fun r48p => some (AEnd.pan r48p, p47.2)) fun r48 =>
    (fAddr 0 x3).bind fun v49 =>
    (ldCell p47.2 v49).bind fun v50 =>
    (call n_cur_Reader_Err [AV.canon v50] p47.2).bind fun p51 => retOr p51.1 (fun r52p => some (AEnd.pan r52p, p51.2)) fun r52 =>
    (bin .eql r52 (.int .i64 0)).bind fun v53 =>
    condV v53 (
      (call n_rec_batch [AV.canon x4] p51.2).bind fun p54 => retOr p54.1 (fun r55p => some (AEnd.pan r55p, p54.2)) fun r55 =>
      condV r55 (
        (call n_rec_body [AV.canon x4] p54.2).bind fun p56 => retOr p56.1 (fun r57p => some (AEnd.pan r57p, p56.2)) fun r57 =>
        (call n_slices_Equal_byte_byte [AV.canon r57, AV.canon x0] p56.2).bind fun p58 => retOr p58.1 (fun r59p => some (AEnd.pan r59p, p58.2)) fun r59 =>
        (call n_rec_must [AV.canon r59] p58.2).bind fun p60 => retOr p60.1 (fun r61p => some (AEnd.pan r61p, p60.2)) fun r61 =>
        some (AEnd.ret x4, p60.2)) (
        (call n_rec_must [AV.canon (.bool false)] p54.2).bind fun p62 => retOr p62.1 (fun r63p => some (AEnd.pan r63p, p62.2)) fun r63 =>
        some (AEnd.ret x4, p62.2))) (
      (call n_rec_must [AV.canon (.bool false)] p51.2).bind fun p64 => retOr p64.1 (fun r65p => some (AEnd.pan r65p, p64.2)) fun r65 =>
      some (AEnd.ret x4, p64.2))) := (hJ _ _ _ (by kernel_rfl)).trans (by kernel_rfl)
theorem rec_changes.l1_eq {call : Cl} {n : Nat} {J : Jn (AEnd × H)} (hJ : rec_changes.F call n J) (m0 m1 : Nat) (x0 x3 x4 x5 x13 x14 x40 x41 x42 : AV) (h : H) : rec_changes.l1 J m0 (m1 + 1) x0 x3 x4 x5 x13 x14 x40 x41 x42 h =
  (bin .lss x42 x41).bind fun v66 =>
  condV v66 (
    (ixSlice 1 x40 x42).bind fun v67 =>
    (ldCell h v67).bind fun v68 =>
    (ldAgg 1 h x3).bind fun v69 =>
    (fAddr 1 x5).bind fun v70 =>
    (callVal call h v68 [AV.canon v69, AV.canon v70]).bind fun p71 => retOr p71.1 (fun r72p => some (AEnd.pan r72p, p71.2)) fun r72 =>
    (bin .add x42 (.int .i64 1)).bind fun v73 =>
    rec_changes.l1 J m0 m1 x0 x3 x4 x5 x13 x14 x40 x41 v73 p71.2) (
    (fAddr 0 x3).bind fun v74 =>
    (ldCell h v74).bind fun v75 =>
    (call n_cur_Reader_Err [AV.canon v75] h).bind fun p76 => retOr p76.1 (fun r77p => some (AEnd.pan r77p, p76.2)) fun r77 =>
    (bin .eql r77 (.int .i64 0)).bind fun v78 =>
    (call n_rec_must [AV.canon v78] p76.2).bind fun p79 => retOr p79.1 (fun r80p => some (AEnd.pan r80p, p79.2)) fun r80 =>
    (ldAgg 11 p79.2 x5).bind fun v81 =>
    (mkRows 11 [.int .i64 0, .int .u64 0, .int .i64 0, .int .i64 0, .str [], .str [], .int .i64 0, .str [], .int .i64 0, .int .i64 0, .str []] 1 [(0, v81)]).bind fun v82 =>
    (apSlice 11 120 false true p79.2 x4 v82).bind fun v83 =>
    (bin .add x14 (.int .i64 1)).bind fun v84 =>
    rec_changes.l0 J m0 x0 x3 v83 x13 v84 p79.2) := (hJ _ _ _ (by kernel_rfl)).trans (by kernel_rfl)
/-! ### (*warrantor/warrantorref02.Reader).Text: function 115 -/
noncomputable def warrantorref02_Reader_Text.A : FAnn := { nv := 7, mv := [(2, 1), (6, 1), (7, 0), (9, 0), (9, 1)], ld := [], lst := [], obj := [], q := [], raw := [] }
noncomputable def warrantorref02_Reader_Text.an : Ann := .nil
noncomputable abbrev warrantorref02_Reader_Text.c : Code := Tryz.f115.body.getD .skip
noncomputable def warrantorref02_Reader_Text.J (call : Cl) (n : Nat) : Jn (AEnd × H) := realJ Tryz.prog warrantorref02_Reader_Text.A call Tryz.f115 warrantorref02_Reader_Text.an warrantorref02_Reader_Text.c n
abbrev warrantorref02_Reader_Text.F (call : Cl) (n : Nat) (J : Jn (AEnd × H)) : Prop := JFix Tryz.prog warrantorref02_Reader_Text.A call Tryz.f115 warrantorref02_Reader_Text.an warrantorref02_Reader_Text.c n J
def warrantorref02_Reader_Text.f (J : Jn (AEnd × H)) (x0 x1 : AV) (h : H) : Option (AEnd × H) := J [] [] ⟨[(0, x0), (1, x1)], [], [], h⟩
theorem warrantorref02_Reader_Text.f_eq {call : Cl} {n : Nat} {J : Jn (AEnd × H)} (hJ : warrantorref02_Reader_Text.F call n J) (x0 x1 : AV) (h : H) : warrantorref02_Reader_Text.f J x0 x1 h =
  (nilOk x0).bind fun v1 =>
  (fAddr 1 v1).bind fun v2 =>
  (ldCell h v2).bind fun v3 =>
  (call n_warrantorref02_Reader_Count [AV.canon x0, AV.canon x1] h).bind fun p4 => retOr p4.1 (fun r5p => some (AEnd.pan r5p, p4.2)) fun r5 =>
  (nilOk x0).bind fun v6 =>
  (fAddr 2 v6).bind fun v7 =>
  (ldCell p4.2 v7).bind fun v8 =>
  (bin .neq v8 (.int .i64 0)).bind fun v9 =>
  condV v9 (
    some (AEnd.ret (.str []), p4.2)) (
    (nilOk x0).bind fun v10 =>
    (fAddr 0 v10).bind fun v11 =>
    (ldCell p4.2 v11).bind fun v12 =>
    (lnSl v12).bind fun v13 =>
    (nilOk x0).bind fun v14 =>
    (fAddr 1 v14).bind fun v15 =>
    (ldCell p4.2 v15).bind fun v16 =>
    (bin .sub v13 v16).bind fun v17 =>
    (bin .gtr r5 v17).bind fun v18 =>
    condV v18 (
      (nilOk x0).bind fun v19 =>
      (fAddr 1 v19).bind fun v20 =>
      (stN 1 p4.2 v20 (AV.copy v3)).bind fun p21 =>
      (call n_warrantorref02_Reader_Fail [AV.canon x0, AV.canon (.int .i64 10)] p21.2).bind fun p22 => retOr p22.1 (fun r23p => some (AEnd.pan r23p, p22.2)) fun r23 =>
      some (AEnd.ret (.str []), p22.2)) (
      (call n_warrantorref02_Reader_take [AV.canon x0, AV.canon r5] p4.2).bind fun p24 => retOr p24.1 (fun r25p => some (AEnd.pan r25p, p24.2)) fun r25 =>
      (bytesStr p24.2 r25).bind fun v26 =>
      some (AEnd.ret v26, p24.2))) := (hJ _ _ _ (by kernel_rfl)).trans (by kernel_rfl)
/-! ### (*warrantor/warrantorref02.Reader).Word: function 116 -/
noncomputable def warrantorref02_Reader_Word.A : FAnn := { nv := 4, mv := [(1, 0), (4, 16)], ld := [], lst := [], obj := [], q := [], raw := [] }
noncomputable def warrantorref02_Reader_Word.an : Ann := .nil
noncomputable abbrev warrantorref02_Reader_Word.c : Code := Tryz.f116.body.getD .skip
noncomputable def warrantorref02_Reader_Word.J (call : Cl) (n : Nat) : Jn (AEnd × H) := realJ Tryz.prog warrantorref02_Reader_Word.A call Tryz.f116 warrantorref02_Reader_Word.an warrantorref02_Reader_Word.c n
abbrev warrantorref02_Reader_Word.F (call : Cl) (n : Nat) (J : Jn (AEnd × H)) : Prop := JFix Tryz.prog warrantorref02_Reader_Word.A call Tryz.f116 warrantorref02_Reader_Word.an warrantorref02_Reader_Word.c n J
def warrantorref02_Reader_Word.f (J : Jn (AEnd × H)) (x0 : AV) (h : H) : Option (AEnd × H) := J [] [] ⟨[(0, x0)], [], [], h⟩
theorem warrantorref02_Reader_Word.f_eq {call : Cl} {n : Nat} {J : Jn (AEnd × H)} (hJ : warrantorref02_Reader_Word.F call n J) (x0 : AV) (h : H) : warrantorref02_Reader_Word.f J x0 h =
  (call n_warrantorref02_Reader_take [AV.canon x0, AV.canon (.int .i64 4)] h).bind fun p1 => retOr p1.1 (fun r2p => some (AEnd.pan r2p, p1.2)) fun r2 =>
  (lnSl r2).bind fun v3 =>
  (bin .lss v3 (.int .i64 4)).bind fun v4 =>
  condV v4 (
    some (AEnd.ret (.int .u32 0), p1.2)) (
    (ixSlice 1 r2 (.int .i64 0)).bind fun v5 =>
    (ldCell p1.2 v5).bind fun v6 =>
    (cvInt .u32 v6).bind fun v7 =>
    (ixSlice 1 r2 (.int .i64 1)).bind fun v8 =>
    (ldCell p1.2 v8).bind fun v9 =>
    (cvInt .u32 v9).bind fun v10 =>
    (bin .mul (.int .u32 256) v10).bind fun v11 =>
    (bin .add v7 v11).bind fun v12 =>
    (ixSlice 1 r2 (.int .i64 2)).bind fun v13 =>
    (ldCell p1.2 v13).bind fun v14 =>
    (cvInt .u32 v14).bind fun v15 =>
    (bin .mul (.int .u32 65536) v15).bind fun v16 =>
    (bin .add v12 v16).bind fun v17 =>
    (ixSlice 1 r2 (.int .i64 3)).bind fun v18 =>
    (ldCell p1.2 v18).bind fun v19 =>
    (cvInt .u32 v19).bind fun v20 =>
    (bin .mul (.int .u32 16777216) v20).bind fun v21 =>
    (bin .add v17 v21).bind fun v22 =>
    some (AEnd.ret (AV.copy v22), p1.2)) := (hJ _ _ _ (by kernel_rfl)).trans (by kernel_rfl)
/-! ### warrantor/warrantorref01.Put: function 117 -/
noncomputable def warrantorref01_Put.A : FAnn := { nv := 4, mv := [(3, 0), (4, 0), (5, 0), (5, 1)], ld := [], lst := [], obj := [], q := [], raw := [] }
noncomputable def warrantorref01_Put.an : Ann := .mk none .nil (.mk none .nil (.mk none (.mk none (.mk none (.mk (some [(0, 0), (3, 255)]) .nil .nil) .nil) .nil) .nil))
noncomputable abbrev warrantorref01_Put.c : Code := Tryz.f117.body.getD .skip
noncomputable def warrantorref01_Put.J (call : Cl) (n : Nat) : Jn (AEnd × H) := realJ Tryz.prog warrantorref01_Put.A call Tryz.f117 warrantorref01_Put.an warrantorref01_Put.c n
abbrev warrantorref01_Put.F (call : Cl) (n : Nat) (J : Jn (AEnd × H)) : Prop := JFix Tryz.prog warrantorref01_Put.A call Tryz.f117 warrantorref01_Put.an warrantorref01_Put.c n J
def warrantorref01_Put.f (J : Jn (AEnd × H)) (x0 : AV) (h : H) : Option (AEnd × H) := J [] [] ⟨[(0, x0)], [], [], h⟩
def warrantorref01_Put.l0 (J : Jn (AEnd × H)) (m0 : Nat) (x0 x3 : AV) (h : H) : Option (AEnd × H) := J [1, 1, 0, 0] [m0] ⟨[(0, x0), (3, x3)], [(0, 0), (3, 255)], [], h⟩
theorem warrantorref01_Put.f_eq {call : Cl} {n : Nat} {J : Jn (AEnd × H)} (hJ : warrantorref01_Put.F call n J) (x0 : AV) (h : H) : warrantorref01_Put.f J x0 h =
  warrantorref01_Put.l0 J n x0 (.list [] .cap) h := (hJ _ _ _ (by kernel_rfl)).trans (by kernel_rfl)
theorem warrantorref01_Put.l0_eq {call : Cl} {n : Nat} {J : Jn (AEnd × H)} (hJ : warrantorref01_Put.F call n J) (m0 : Nat) (x0 x3 : AV) (h : H) : warrantorref01_Put.l0 J (m0 + 1) x0 x3 h =
  (bin .geq x0 (.int .u64 128)).bind fun v1 =>
  condV v1 (
    (bin .rem x0 (.int .u64 128)).bind fun v2 =>
    (bin .add v2 (.int .u64 128)).bind fun v3 =>
    (cvInt .u8 v3).bind fun v4 =>
    (mkRows 1 [.int .u8 0] 1 [(0, v4)]).bind fun v5 =>
    (apSlice 1 1 true true h x3 v5).bind fun v6 =>
    (bin .quo x0 (.int .u64 128)).bind fun v7 =>
    warrantorref01_Put.l0 J m0 v7 v6 h) (
    (cvInt .u8 x0).bind fun v8 =>
    (mkRows 1 [.int .u8 0] 1 [(0, v8)]).bind fun v9 =>
    (apSlice 1 1 true true h x3 v9).bind fun v10 =>
    some (AEnd.ret v10, h)) := (hJ _ _ _ (by kernel_rfl)).trans (by kernel_rfl)
/-! ### warrantor/warrantorref03.More: function 118 -/
noncomputable def warrantorref03_More.A : FAnn := { nv := 7, mv := [(1, 0), (4, 0), (5, 0), (6, 0)], ld := [], lst := [], obj := [], q := [], raw := [] }
noncomputable def warrantorref03_More.an : Ann := .mk none .nil (.mk none .nil (.mk none (.mk none .nil (.mk none (.mk none (.mk (some [(1, 0), (5, 0), (6, 0)]) .nil .nil) .nil) .nil)) .nil))
noncomputable abbrev warrantorref03_More.c : Code := Tryz.f118.body.getD .skip
noncomputable def warrantorref03_More.J (call : Cl) (n : Nat) : Jn (AEnd × H) := realJ Tryz.prog warrantorref03_More.A call Tryz.f118 warrantorref03_More.an warrantorref03_More.c n
abbrev warrantorref03_More.F (call : Cl) (n : Nat) (J : Jn (AEnd × H)) : Prop := JFix Tryz.prog warrantorref03_More.A call Tryz.f118 warrantorref03_More.an warrantorref03_More.c n J
def warrantorref03_More.f (J : Jn (AEnd × H)) (x0 x1 : AV) (h : H) : Option (AEnd × H) := J [] [] ⟨[(0, x0), (1, x1)], [], [], h⟩
def warrantorref03_More.l0 (J : Jn (AEnd × H)) (m0 : Nat) (x1 x5 x6 : AV) (h : H) : Option (AEnd × H) := J [1, 1, 0, 1, 0] [m0] ⟨[(1, x1), (5, x5), (6, x6)], [(1, 0), (5, 0), (6, 0)], [], h⟩
theorem warrantorref03_More.f_eq {call : Cl} {n : Nat} {J : Jn (AEnd × H)} (hJ : warrantorref03_More.F call n J) (x0 x1 : AV) (h : H) : warrantorref03_More.f J x0 x1 h =
  (bin .sub (.int .u32 4294967295) x0).bind fun v1 =>
  warrantorref03_More.l0 J n x1 v1 (.int .i64 0) h := (hJ _ _ _ (by kernel_rfl)).trans (by kernel_rfl)
theorem warrantorref03_More.l0_eq {call : Cl} {n : Nat} {J : Jn (AEnd × H)} (hJ : warrantorref03_More.F call n J) (m0 : Nat) (x1 x5 x6 : AV) (h : H) : warrantorref03_More.l0 J (m0 + 1) x1 x5 x6 h =
  (lnSl x1).bind fun v2 =>
  (bin .lss x6 v2).bind fun v3 =>
  condV v3 (
    (ixSlice 1 x1 x6).bind fun v4 =>
    (ldCell h v4).bind fun v5 =>
    (call n_warrantorref03_take [AV.canon x5, AV.canon v5] h).bind fun p6 => retOr p6.1 (fun r7p => some (AEnd.pan r7p, p6.2)) fun r7 =>
    (bin .add x6 (.int .i64 1)).bind fun v8 =>
    warrantorref03_More.l0 J m0 x1 r7 v8 p6.2) (
    (bin .sub (.int .u32 4294967295) x5).bind fun v9 =>
    some (AEnd.ret (AV.copy v9), h)) := (hJ _ _ _ (by kernel_rfl)).trans (by kernel_rfl)
/-! ### (*warrantor/warrantorref02.Reader).U: function 119 -/
noncomputable def warrantorref02_Reader_U.A : FAnn := { nv := 6, mv := [(5, 0), (5, 1), (7, 1), (7, 5), (8, 0)], ld := [], lst := [], obj := [], q := [154], raw := [] }
noncomputable def warrantorref02_Reader_U.an : Ann := .nil
noncomputable abbrev warrantorref02_Reader_U.c : Code := Tryz.f119.body.getD .skip
noncomputable def warrantorref02_Reader_U.J (call : Cl) (n : Nat) : Jn (AEnd × H) := realJ Tryz.prog warrantorref02_Reader_U.A call Tryz.f119 warrantorref02_Reader_U.an warrantorref02_Reader_U.c n
abbrev warrantorref02_Reader_U.F (call : Cl) (n : Nat) (J : Jn (AEnd × H)) : Prop := JFix Tryz.prog warrantorref02_Reader_U.A call Tryz.f119 warrantorref02_Reader_U.an warrantorref02_Reader_U.c n J
def warrantorref02_Reader_U.f (J : Jn (AEnd × H)) (x0 : AV) (h : H) : Option (AEnd × H) := J [] [] ⟨[(0, x0)], [], [], h⟩
theorem warrantorref02_Reader_U.f_eq {call : Cl} {n : Nat} {J : Jn (AEnd × H)} (hJ : warrantorref02_Reader_U.F call n J) (x0 : AV) (h : H) : warrantorref02_Reader_U.f J x0 h =
  (nilOk x0).bind fun v1 =>
  (fAddr 2 v1).bind fun v2 =>
  (ldCell h v2).bind fun v3 =>
  (bin .neq v3 (.int .i64 0)).bind fun v4 =>
  condV v4 (
    some (AEnd.ret (.int .u64 0), h)) (
    (nilOk x0).bind fun v5 =>
    (fAddr 0 v5).bind fun v6 =>
    (ldCell h v6).bind fun v7 =>
    (nilOk x0).bind fun v8 =>
    (fAddr 1 v8).bind fun v9 =>
    (ldCell h v9).bind fun v10 =>
    (slSlice 1 v7 (some v10) none none).bind fun v11 =>
    (call n_warrantorref01_Get [AV.canon v11] h).bind fun p12 => retOr p12.1 (fun _ => none) fun r13 =>
    (exTuple 0 r13).bind fun v14 =>
    (exTuple 1 r13).bind fun v15 =>
    (exTuple 2 r13).bind fun v16 =>
    (bin .neq v16 (.int .i64 0)).bind fun v17 =>
    condV v17 (
      (call n_warrantorref02_Reader_Fail [AV.canon x0, AV.canon v16] p12.2).bind fun p18 => retOr p18.1 (fun r19p => some (AEnd.pan r19p, p18.2)) fun r19 =>
      some (AEnd.ret (.int .u64 0), p18.2)) (
      (nilOk x0).bind fun v20 =>
      (fAddr 1 v20).bind fun v21 =>
      (ldCell p12.2 v21).bind fun v22 =>
      (bin .add v22 v15).bind fun v23 =>
      (nilOk x0).bind fun v24 =>
      (fAddr 1 v24).bind fun v25 =>
      (stN 1 p12.2 v25 (AV.copy v23)).bind fun p26 =>
      some (AEnd.ret (AV.copy v14), p26.2))) := (hJ _ _ _ (by kernel_rfl)).trans (by kernel_rfl)
/-! ### (*warrantor/warrantorref02.Reader).Fail: function 120 -/
noncomputable def warrantorref02_Reader_Fail.A : FAnn := { nv := 4, mv := [(3, 0), (3, 1)], ld := [], lst := [], obj := [], q := [], raw := [] }
noncomputable def warrantorref02_Reader_Fail.an : Ann := .mk none .nil (.mk (some [(0, 0), (1, 0)]) .nil .nil)
noncomputable abbrev warrantorref02_Reader_Fail.c : Code := Tryz.f120.body.getD .skip
noncomputable def warrantorref02_Reader_Fail.J (call : Cl) (n : Nat) : Jn (AEnd × H) := realJ Tryz.prog warrantorref02_Reader_Fail.A call Tryz.f120 warrantorref02_Reader_Fail.an warrantorref02_Reader_Fail.c n
abbrev warrantorref02_Reader_Fail.F (call : Cl) (n : Nat) (J : Jn (AEnd × H)) : Prop := JFix Tryz.prog warrantorref02_Reader_Fail.A call Tryz.f120 warrantorref02_Reader_Fail.an warrantorref02_Reader_Fail.c n J
def warrantorref02_Reader_Fail.f (J : Jn (AEnd × H)) (x0 x1 : AV) (h : H) : Option (AEnd × H) := J [] [] ⟨[(0, x0), (1, x1)], [], [], h⟩
def warrantorref02_Reader_Fail.j0 (J : Jn (AEnd × H)) (x0 x1 : AV) (h : H) : Option (AEnd × H) := J [1] [] ⟨[(0, x0), (1, x1)], [(0, 0), (1, 0)], [], h⟩
theorem warrantorref02_Reader_Fail.f_eq {call : Cl} {n : Nat} {J : Jn (AEnd × H)} (hJ : warrantorref02_Reader_Fail.F call n J) (x0 x1 : AV) (h : H) : warrantorref02_Reader_Fail.f J x0 x1 h =
  (bin .eql x1 (.int .i64 0)).bind fun v1 =>
  condV v1 (
    warrantorref02_Reader_Fail.j0 J  x0 (.int .i64 1) h) (
    warrantorref02_Reader_Fail.j0 J  x0 x1 h) := (hJ _ _ _ (by kernel_rfl)).trans (by kernel_rfl)
theorem warrantorref02_Reader_Fail.j0_eq {call : Cl} {n : Nat} {J : Jn (AEnd × H)} (hJ : warrantorref02_Reader_Fail.F call n J) (x0 x1 : AV) (h : H) : warrantorref02_Reader_Fail.j0 J  x0 x1 h =
  (nilOk x0).bind fun v2 =>
  (fAddr 2 v2).bind fun v3 =>
  (ldCell h v3).bind fun v4 =>
  (bin .eql v4 (.int .i64 0)).bind fun v5 =>
  condV v5 (
    (nilOk x0).bind fun v6 =>
    (fAddr 2 v6).bind fun v7 =>
    (stN 1 h v7 (AV.copy x1)).bind fun p8 =>
    some (AEnd.ret (.tuple []), p8.2)) (
    some (AEnd.ret (.tuple []), h)) := (hJ _ _ _ (by kernel_rfl)).trans (by kernel_rfl)
/-! ### warrantor/warrantorref27.finger: function 121 -/
noncomputable def warrantorref27_finger.A : FAnn := { nv := 4, mv := [(2, 0), (2, 1)], ld := [], lst := [], obj := [], q := [], raw := [] }
noncomputable def warrantorref27_finger.an : Ann := .nil
noncomputable abbrev warrantorref27_finger.c : Code := Tryz.f121.body.getD .skip
noncomputable def warrantorref27_finger.J (call : Cl) (n : Nat) : Jn (AEnd × H) := realJ Tryz.prog warrantorref27_finger.A call Tryz.f121 warrantorref27_finger.an warrantorref27_finger.c n
abbrev warrantorref27_finger.F (call : Cl) (n : Nat) (J : Jn (AEnd × H)) : Prop := JFix Tryz.prog warrantorref27_finger.A call Tryz.f121 warrantorref27_finger.an warrantorref27_finger.c n J
def warrantorref27_finger.f (J : Jn (AEnd × H)) (x0 : AV) (h : H) : Option (AEnd × H) := J [] [] ⟨[(0, x0)], [], [], h⟩
theorem warrantorref27_finger.f_eq {call : Cl} {n : Nat} {J : Jn (AEnd × H)} (hJ : warrantorref27_finger.F call n J) (x0 : AV) (h : H) : warrantorref27_finger.f J x0 h =
  (call n_warrantorref02_Reader_Word [AV.canon x0] h).bind fun p1 => retOr p1.1 (fun r2p => some (AEnd.pan r2p, p1.2)) fun r2 =>
  (cvInt .u64 r2).bind fun v3 =>
  (call n_warrantorref02_Reader_Word [AV.canon x0] p1.2).bind fun p4 => retOr p4.1 (fun r5p => some (AEnd.pan r5p, p4.2)) fun r5 =>
  (cvInt .u64 r5).bind fun v6 =>
  (bin .mul (.int .u64 4294967296) v6).bind fun v7 =>
  (bin .add v3 v7).bind fun v8 =>
  some (AEnd.ret (AV.copy v8), p4.2) := (hJ _ _ _ (by kernel_rfl)).trans (by kernel_rfl)
/-! ### warrantor/leb.Put: function 122 -/
noncomputable def leb_Put.A : FAnn := { nv := 4, mv := [(3, 0), (4, 0), (5, 0), (5, 1)], ld := [], lst := [(1, 0)], obj := [], q := [], raw := [] }
noncomputable def leb_Put.an : Ann := .mk none .nil (.mk none .nil (.mk none (.mk none (.mk none (.mk (some [(0, 0), (3, 255)]) .nil .nil) .nil) .nil) .nil))
noncomputable abbrev leb_Put.c : Code := Tryz.f122.body.getD .skip
noncomputable def leb_Put.J (call : Cl) (n : Nat) : Jn (AEnd × H) := realJ Tryz.prog leb_Put.A call Tryz.f122 leb_Put.an leb_Put.c n
abbrev leb_Put.F (call : Cl) (n : Nat) (J : Jn (AEnd × H)) : Prop := JFix Tryz.prog leb_Put.A call Tryz.f122 leb_Put.an leb_Put.c n J
def leb_Put.f (J : Jn (AEnd × H)) (x0 : AV) (h : H) : Option (AEnd × H) := J [] [] ⟨[(0, x0)], [], [], h⟩
def leb_Put.l0 (J : Jn (AEnd × H)) (m0 : Nat) (x0 x3 : AV) (h : H) : Option (AEnd × H) := J [1, 1, 0, 0] [m0] ⟨[(0, x0), (3, x3)], [(0, 0), (3, 255)], [], h⟩
theorem leb_Put.f_eq {call : Cl} {n : Nat} {J : Jn (AEnd × H)} (hJ : leb_Put.F call n J) (x0 : AV) (h : H) : leb_Put.f J x0 h =
  (mkSlice 1 1 [.int .u8 0] true h (.int .i64 0) (.int .i64 10)).bind fun p1 =>
  leb_Put.l0 J n x0 p1.1 p1.2 := (hJ _ _ _ (by kernel_rfl)).trans (by kernel_rfl)
theorem leb_Put.l0_eq {call : Cl} {n : Nat} {J : Jn (AEnd × H)} (hJ : leb_Put.F call n J) (m0 : Nat) (x0 x3 : AV) (h : H) : leb_Put.l0 J (m0 + 1) x0 x3 h =
  (bin .geq x0 (.int .u64 128)).bind fun v2 =>
  condV v2 (
    (cvInt .u8 x0).bind fun v3 =>
    (bin .or v3 (.int .u8 128)).bind fun v4 =>
    (mkRows 1 [.int .u8 0] 1 [(0, v4)]).bind fun v5 =>
    (apSlice 1 1 true true h x3 v5).bind fun v6 =>
    (bin .shr x0 (.int .u64 7)).bind fun v7 =>
    leb_Put.l0 J m0 v7 v6 h) (
    (cvInt .u8 x0).bind fun v8 =>
    (mkRows 1 [.int .u8 0] 1 [(0, v8)]).bind fun v9 =>
    (apSlice 1 1 true true h x3 v9).bind fun v10 =>
    some (AEnd.ret v10, h)) := (hJ _ _ _ (by kernel_rfl)).trans (by kernel_rfl)
/-! ### warrantor/journal.head: function 123 -/
noncomputable def journal_head.A : FAnn := { nv := 9, mv := [(4, 0), (5, 2), (6, 0), (9, 0), (10, 0), (10, 1), (10, 2)], ld := [], lst := [], obj := [], q := [124], raw := [] }
noncomputable def journal_head.an : Ann := .mk none .nil (.mk none .nil (.mk (some [(0, 0)]) .nil (.mk none .nil (.mk none .nil (.mk none .nil (.mk (some [(5, 255), (6, 255)]) .nil (.mk none .nil (.mk none .nil (.mk none .nil (.mk (some [(2, 255), (3, 255), (5, 255)]) .nil .nil))))))))))
noncomputable abbrev journal_head.c : Code := Tryz.f123.body.getD .skip
noncomputable def journal_head.J (call : Cl) (n : Nat) : Jn (AEnd × H) := realJ Tryz.prog journal_head.A call Tryz.f123 journal_head.an journal_head.c n
abbrev journal_head.F (call : Cl) (n : Nat) (J : Jn (AEnd × H)) : Prop := JFix Tryz.prog journal_head.A call Tryz.f123 journal_head.an journal_head.c n J
def journal_head.f (J : Jn (AEnd × H)) (x0 : AV) (h : H) : Option (AEnd × H) := J [] [] ⟨[(0, x0)], [], [], h⟩
def journal_head.j0 (J : Jn (AEnd × H)) (x0 : AV) (h : H) : Option (AEnd × H) := J [1, 1] [] ⟨[(0, x0)], [(0, 0)], [], h⟩
def journal_head.j1 (J : Jn (AEnd × H)) (x5 x6 : AV) (h : H) : Option (AEnd × H) := J [1, 1, 1, 1, 1, 1] [] ⟨[(5, x5), (6, x6)], [(5, 255), (6, 255)], [], h⟩
def journal_head.j2 (J : Jn (AEnd × H)) (x2 x3 x5 : AV) (h : H) : Option (AEnd × H) := J [1, 1, 1, 1, 1, 1, 1, 1, 1, 1] [] ⟨[(2, x2), (3, x3), (5, x5)], [(2, 255), (3, 255), (5, 255)], [], h⟩
theorem journal_head.f_eq {call : Cl} {n : Nat} {J : Jn (AEnd × H)} (hJ : journal_head.F call n J) (x0 : AV) (h : H) : journal_head.f J x0 h =
  (lnSl x0).bind fun v1 =>
  (bin .geq v1 (.int .i64 5)).bind fun v2 =>
  condV v2 (
    (slSlice 1 x0 none (some (.int .i64 5)) none).bind fun v3 =>
    (bytesStr h v3).bind fun v4 =>
    (mkRows 1 [.int .u8 0] 1 [(0, .int .u8 1)]).bind fun v5 =>
    (bytesStr h v5).bind fun v6 =>
    (bin .add (.str [65, 73, 82, 74]) v6).bind fun v7 =>
    (bin .eql v4 v7).bind fun v8 =>
    (call n_journal_must [AV.canon v8] h).bind fun p9 => retOr p9.1 (fun _ => none) fun r10 =>
    journal_head.j0 J  x0 p9.2) (
    (call n_journal_must [AV.canon (.bool false)] h).bind fun p11 => retOr p11.1 (fun _ => none) fun r12 =>
    journal_head.j0 J  x0 p11.2) := (hJ _ _ _ (by kernel_rfl)).trans (by kernel_rfl)
theorem journal_head.j0_eq {call : Cl} {n : Nat} {J : Jn (AEnd × H)} (hJ : journal_head.F call n J) (x0 : AV) (h : H) : journal_head.j0 J  x0 h =
  (slSlice 1 x0 (some (.int .i64 5)) none none).bind fun v13 =>
  (call n_cur_From [AV.canon v13] h).bind fun p14 => retOr p14.1 (fun r15p => some (AEnd.pan r15p, p14.2)) fun r15 =>
  (call n_cur_Reader_Text [AV.canon r15, AV.canon (.int .i64 16)] p14.2).bind fun p16 => retOr p16.1 (fun r17p => some (AEnd.pan r17p, p16.2)) fun r17 =>
  (call n_cur_Reader_At [AV.canon r15] p16.2).bind fun p18 => retOr p18.1 (fun r19p => some (AEnd.pan r19p, p18.2)) fun r19 =>
  (bin .add (.int .i64 5) r19).bind fun v20 =>
  (slSlice 1 x0 (some (.int .i64 5)) (some v20) none).bind fun v21 =>
  (call n_crc_Sum [AV.canon v21] p18.2).bind fun p22 => retOr p22.1 (fun r23p => some (AEnd.pan r23p, p22.2)) fun r23 =>
  (call n_cur_Reader_Word [AV.canon r15] p22.2).bind fun p24 => retOr p24.1 (fun r25p => some (AEnd.pan r25p, p24.2)) fun r25 =>
  (bin .eql r25 r23).bind fun v26 =>
  condV v26 (
    (call n_cur_Reader_Err [AV.canon r15] p24.2).bind fun p27 => retOr p27.1 (fun r28p => some (AEnd.pan r28p, p27.2)) fun r28 =>
    (bin .eql r28 (.int .i64 0)).bind fun v29 =>
    (call n_journal_must [AV.canon v29] p27.2).bind fun p30 => retOr p30.1 (fun r31p => some (AEnd.pan r31p, p30.2)) fun r31 =>
    journal_head.j1 J  r15 r17 p30.2) (
    (call n_journal_must [AV.canon (.bool false)] p24.2).bind fun p32 => retOr p32.1 (fun r33p => some (AEnd.pan r33p, p32.2)) fun r33 =>
    journal_head.j1 J  r15 r17 p32.2) := (hJ _ _ _ (by kernel_rfl)).trans (by kernel_rfl)
theorem journal_head.j1_eq {call : Cl} {n : Nat} {J : Jn (AEnd × H)} (hJ : journal_head.F call n J) (x5 x6 : AV) (h : H) : journal_head.j1 J  x5 x6 h =
  (strBytes x6).bind fun v34 =>
  (call n_cur_From [AV.canon v34] h).bind fun p35 => retOr p35.1 (fun r36p => some (AEnd.pan r36p, p35.2)) fun r36 =>
  (call n_cur_Reader_Count [AV.canon r36, AV.canon (.int .i64 1099511627776)] p35.2).bind fun p37 => retOr p37.1 (fun r38p => some (AEnd.pan r38p, p37.2)) fun r38 =>
  (call n_cur_Reader_Count [AV.canon r36, AV.canon (.int .i64 512)] p37.2).bind fun p39 => retOr p39.1 (fun r40p => some (AEnd.pan r40p, p39.2)) fun r40 =>
  (call n_cur_Reader_End [AV.canon r36] p39.2).bind fun p41 => retOr p41.1 (fun r42p => some (AEnd.pan r42p, p41.2)) fun r42 =>
  (call n_cur_Reader_Err [AV.canon r36] p41.2).bind fun p43 => retOr p43.1 (fun r44p => some (AEnd.pan r44p, p43.2)) fun r44 =>
  (bin .eql r44 (.int .i64 0)).bind fun v45 =>
  condV v45 (
    (bin .gtr r38 (.int .i64 0)).bind fun v46 =>
    (call n_journal_must [AV.canon v46] p43.2).bind fun p47 => retOr p47.1 (fun r48p => some (AEnd.pan r48p, p47.2)) fun r48 =>
    journal_head.j2 J  r38 r40 x5 p47.2) (
    (call n_journal_must [AV.canon (.bool false)] p43.2).bind fun p49 => retOr p49.1 (fun r50p => some (AEnd.pan r50p, p49.2)) fun r50 =>
    journal_head.j2 J  r38 r40 x5 p49.2) := (hJ _ _ _ (by kernel_rfl)).trans (by kernel_rfl)
theorem journal_head.j2_eq {call : Cl} {n : Nat} {J : Jn (AEnd × H)} (hJ : journal_head.F call n J) (x2 x3 x5 : AV) (h : H) : journal_head.j2 J  x2 x3 x5 h =
  (call n_cur_Reader_At [AV.canon x5] h).bind fun p51 => retOr p51.1 (fun r52p => some (AEnd.pan r52p, p51.2)) fun r52 =>
  (bin .add (.int .i64 5) r52).bind fun v53 =>
  some (AEnd.ret (.tuple [x2, x3, (AV.copy v53)]), p51.2) := (hJ _ _ _ (by kernel_rfl)).trans (by kernel_rfl)
/-! ### warrantor/journal.must: function 124 -/
noncomputable def journal_must.A : FAnn := { nv := 2, mv := [(0, 0)], ld := [], lst := [], obj := [], q := [], raw := [] }
noncomputable def journal_must.an : Ann := .nil
noncomputable abbrev journal_must.c : Code := Tryz.f124.body.getD .skip
noncomputable def journal_must.J (call : Cl) (n : Nat) : Jn (AEnd × H) := realJ Tryz.prog journal_must.A call Tryz.f124 journal_must.an journal_must.c n
abbrev journal_must.F (call : Cl) (n : Nat) (J : Jn (AEnd × H)) : Prop := JFix Tryz.prog journal_must.A call Tryz.f124 journal_must.an journal_must.c n J
def journal_must.f (J : Jn (AEnd × H)) (x0 : AV) (h : H) : Option (AEnd × H) := J [] [] ⟨[(0, x0)], [], [], h⟩
theorem journal_must.f_eq {call : Cl} {n : Nat} {J : Jn (AEnd × H)} (hJ : journal_must.F call n J) (x0 : AV) (h : H) : journal_must.f J x0 h =
  (unOp .not x0).bind fun v1 =>
  condV v1 (
    (mkAgg [] []).bind fun v2 =>
    panOr (.iface t_journal_broken (AV.copy v2)) fun w => some (AEnd.pan w, h)) (
    some (AEnd.ret (.tuple []), h)) := (hJ _ _ _ (by kernel_rfl)).trans (by kernel_rfl)
/-! ### warrantor/journal.batches$1: function 125 -/
noncomputable def journal_batches_c1.A : FAnn := { nv := 7, mv := [(2, 1), (3, 0), (3, 5)], ld := [], lst := [], obj := [], q := [], raw := [] }
noncomputable def journal_batches_c1.an : Ann := .mk none (.mk none (.mk (some [(0, 0), (1, 0), (2, 0)]) .nil .nil) .nil) .nil
noncomputable abbrev journal_batches_c1.c : Code := Tryz.f125.body.getD .skip
noncomputable def journal_batches_c1.J (call : Cl) (n : Nat) : Jn (AEnd × H) := realJ Tryz.prog journal_batches_c1.A call Tryz.f125 journal_batches_c1.an journal_batches_c1.c n
abbrev journal_batches_c1.F (call : Cl) (n : Nat) (J : Jn (AEnd × H)) : Prop := JFix Tryz.prog journal_batches_c1.A call Tryz.f125 journal_batches_c1.an journal_batches_c1.c n J
def journal_batches_c1.f (J : Jn (AEnd × H)) (x0 x1 x2 : AV) (h : H) : Option (AEnd × H) := J [] [] ⟨[(0, x0), (1, x1), (2, x2)], [], [], h⟩
def journal_batches_c1.l0 (J : Jn (AEnd × H)) (m0 : Nat) (x0 x1 x2 : AV) (h : H) : Option (AEnd × H) := J [0] [m0] ⟨[(0, x0), (1, x1), (2, x2)], [(0, 0), (1, 0), (2, 0)], [], h⟩
theorem journal_batches_c1.f_eq {call : Cl} {n : Nat} {J : Jn (AEnd × H)} (hJ : journal_batches_c1.F call n J) (x0 x1 x2 : AV) (h : H) : journal_batches_c1.f J x0 x1 x2 h =
  journal_batches_c1.l0 J n x0 x1 x2 h := (hJ _ _ _ (by kernel_rfl)).trans (by kernel_rfl)
theorem journal_batches_c1.l0_eq {call : Cl} {n : Nat} {J : Jn (AEnd × H)} (hJ : journal_batches_c1.F call n J) (m0 : Nat) (x0 x1 x2 : AV) (h : H) : journal_batches_c1.l0 J (m0 + 1) x0 x1 x2 h =
  (ldCell h x1).bind fun v1 =>
  (ldCell h x2).bind fun v2 =>
  (lnSl v2).bind fun v3 =>
  (bin .lss v1 v3).bind fun v4 =>
  condV v4 (
    (ldCell h x2).bind fun v5 =>
    (ldCell h x1).bind fun v6 =>
    (slSlice 1 v5 (some v6) none none).bind fun v7 =>
    (call n_rec_Get [AV.canon v7] h).bind fun p8 => retOr p8.1 (fun r9p => some (AEnd.pan r9p, p8.2)) fun r9 =>
    (exTuple 0 r9).bind fun v10 =>
    (exTuple 1 r9).bind fun v11 =>
    (exTuple 2 r9).bind fun v12 =>
    (ldCell p8.2 x1).bind fun v13 =>
    (bin .add v13 v11).bind fun v14 =>
    (stN 1 p8.2 x1 (AV.copy v14)).bind fun p15 =>
    (bin .neq v12 (.int .i64 0)).bind fun v16 =>
    condV v16 (
      some (AEnd.ret (.tuple []), p15.2)) (
      (ldCell p15.2 x1).bind fun v17 =>
      (callVal call p15.2 x0 [AV.canon v17, AV.canon v10]).bind fun p18 => retOr p18.1 (fun r19p => some (AEnd.pan r19p, p18.2)) fun r19 =>
      (unOp .not r19).bind fun v20 =>
      condV v20 (
        some (AEnd.ret (.tuple []), p18.2)) (
        journal_batches_c1.l0 J m0 x0 x1 x2 p18.2))) (
    some (AEnd.ret (.tuple []), h)) := (hJ _ _ _ (by kernel_rfl)).trans (by kernel_rfl)
/-! ### (warrantor/rec.taker).num: function 126 -/
noncomputable def rec_taker_num.A : FAnn := { nv := 2, mv := [], ld := [], lst := [], obj := [], q := [], raw := [] }
noncomputable def rec_taker_num.an : Ann := .nil
noncomputable abbrev rec_taker_num.c : Code := Tryz.f126.body.getD .skip
noncomputable def rec_taker_num.J (call : Cl) (n : Nat) : Jn (AEnd × H) := realJ Tryz.prog rec_taker_num.A call Tryz.f126 rec_taker_num.an rec_taker_num.c n
abbrev rec_taker_num.F (call : Cl) (n : Nat) (J : Jn (AEnd × H)) : Prop := JFix Tryz.prog rec_taker_num.A call Tryz.f126 rec_taker_num.an rec_taker_num.c n J
def rec_taker_num.f (J : Jn (AEnd × H)) (x0 : AV) (h : H) : Option (AEnd × H) := J [] [] ⟨[(0, x0)], [], [], h⟩
theorem rec_taker_num.f_eq {call : Cl} {n : Nat} {J : Jn (AEnd × H)} (hJ : rec_taker_num.F call n J) (x0 : AV) (h : H) : rec_taker_num.f J x0 h =
  (bx h (AV.copy x0)).bind fun p1 =>
  (fAddr 0 p1.1).bind fun v2 =>
  (ldCell p1.2 v2).bind fun v3 =>
  (call n_cur_Reader_Count [AV.canon v3, AV.canon (.int .i64 1048576)] p1.2).bind fun p4 => retOr p4.1 (fun r5p => some (AEnd.pan r5p, p4.2)) fun r5 =>
  some (AEnd.ret r5, p4.2) := (hJ _ _ _ (by kernel_rfl)).trans (by kernel_rfl)
/-! ### (warrantor/rec.taker).text: function 127 -/
noncomputable def rec_taker_text.A : FAnn := { nv := 2, mv := [], ld := [], lst := [], obj := [], q := [], raw := [] }
noncomputable def rec_taker_text.an : Ann := .nil
noncomputable abbrev rec_taker_text.c : Code := Tryz.f127.body.getD .skip
noncomputable def rec_taker_text.J (call : Cl) (n : Nat) : Jn (AEnd × H) := realJ Tryz.prog rec_taker_text.A call Tryz.f127 rec_taker_text.an rec_taker_text.c n
abbrev rec_taker_text.F (call : Cl) (n : Nat) (J : Jn (AEnd × H)) : Prop := JFix Tryz.prog rec_taker_text.A call Tryz.f127 rec_taker_text.an rec_taker_text.c n J
def rec_taker_text.f (J : Jn (AEnd × H)) (x0 : AV) (h : H) : Option (AEnd × H) := J [] [] ⟨[(0, x0)], [], [], h⟩
theorem rec_taker_text.f_eq {call : Cl} {n : Nat} {J : Jn (AEnd × H)} (hJ : rec_taker_text.F call n J) (x0 : AV) (h : H) : rec_taker_text.f J x0 h =
  (bx h (AV.copy x0)).bind fun p1 =>
  (fAddr 0 p1.1).bind fun v2 =>
  (ldCell p1.2 v2).bind fun v3 =>
  (call n_cur_Reader_Text [AV.canon v3, AV.canon (.int .i64 1048576)] p1.2).bind fun p4 => retOr p4.1 (fun r5p => some (AEnd.pan r5p, p4.2)) fun r5 =>
  some (AEnd.ret r5, p4.2) := (hJ _ _ _ (by kernel_rfl)).trans (by kernel_rfl)
/-! ### warrantor/alarm.expr$1: function 128 -/
noncomputable def alarm_expr_c1.A : FAnn := { nv := 2, mv := [(1, 3)], ld := [], lst := [], obj := [], q := [], raw := [] }
noncomputable def alarm_expr_c1.an : Ann := .nil
noncomputable abbrev alarm_expr_c1.c : Code := Tryz.f128.body.getD .skip
noncomputable def alarm_expr_c1.J (call : Cl) (n : Nat) : Jn (AEnd × H) := realJ Tryz.prog alarm_expr_c1.A call Tryz.f128 alarm_expr_c1.an alarm_expr_c1.c n
abbrev alarm_expr_c1.F (call : Cl) (n : Nat) (J : Jn (AEnd × H)) : Prop := JFix Tryz.prog alarm_expr_c1.A call Tryz.f128 alarm_expr_c1.an alarm_expr_c1.c n J
def alarm_expr_c1.f (J : Jn (AEnd × H)) (x0 : AV) (h : H) : Option (AEnd × H) := J [] [] ⟨[(0, x0)], [], [], h⟩
theorem alarm_expr_c1.f_eq {call : Cl} {n : Nat} {J : Jn (AEnd × H)} (hJ : alarm_expr_c1.F call n J) (x0 : AV) (h : H) : alarm_expr_c1.f J x0 h =
  (bin .lss x0 (.int .i32 32)).bind fun v1 =>
  condV v1 (
    some (AEnd.ret (AV.copy (.bool true)), h)) (
    (bin .gtr x0 (.int .i32 126)).bind fun v2 =>
    some (AEnd.ret (AV.copy v2), h)) := (hJ _ _ _ (by kernel_rfl)).trans (by kernel_rfl)
/-! ### strings.ContainsFunc: function 129 -/
noncomputable def strings_ContainsFunc.A : FAnn := { nv := 4, mv := [(1, 0), (1, 1)], ld := [], lst := [], obj := [], q := [], raw := [] }
noncomputable def strings_ContainsFunc.an : Ann := .nil
noncomputable abbrev strings_ContainsFunc.c : Code := Tryz.f129.body.getD .skip
noncomputable def strings_ContainsFunc.J (call : Cl) (n : Nat) : Jn (AEnd × H) := realJ Tryz.prog strings_ContainsFunc.A call Tryz.f129 strings_ContainsFunc.an strings_ContainsFunc.c n
abbrev strings_ContainsFunc.F (call : Cl) (n : Nat) (J : Jn (AEnd × H)) : Prop := JFix Tryz.prog strings_ContainsFunc.A call Tryz.f129 strings_ContainsFunc.an strings_ContainsFunc.c n J
def strings_ContainsFunc.f (J : Jn (AEnd × H)) (x0 x1 : AV) (h : H) : Option (AEnd × H) := J [] [] ⟨[(0, x0), (1, x1)], [], [], h⟩
theorem strings_ContainsFunc.f_eq {call : Cl} {n : Nat} {J : Jn (AEnd × H)} (hJ : strings_ContainsFunc.F call n J) (x0 x1 : AV) (h : H) : strings_ContainsFunc.f J x0 x1 h =
  (call n_strings_IndexFunc [AV.canon x0, AV.canon x1] h).bind fun p1 => retOr p1.1 (fun r2p => some (AEnd.pan r2p, p1.2)) fun r2 =>
  (bin .geq r2 (.int .i64 0)).bind fun v3 =>
  some (AEnd.ret (AV.copy v3), p1.2) := (hJ _ _ _ (by kernel_rfl)).trans (by kernel_rfl)
/-! ### warrantor/prog.Check$1: function 130 -/
noncomputable def prog_Check_c1.A : FAnn := { nv := 4, mv := [], ld := [], lst := [], obj := [], q := [], raw := [] }
noncomputable def prog_Check_c1.an : Ann := .nil
noncomputable abbrev prog_Check_c1.c : Code := Tryz.f130.body.getD .skip
noncomputable def prog_Check_c1.J (call : Cl) (n : Nat) : Jn (AEnd × H) := realJ Tryz.prog prog_Check_c1.A call Tryz.f130 prog_Check_c1.an prog_Check_c1.c n
abbrev prog_Check_c1.F (call : Cl) (n : Nat) (J : Jn (AEnd × H)) : Prop := JFix Tryz.prog prog_Check_c1.A call Tryz.f130 prog_Check_c1.an prog_Check_c1.c n J
def prog_Check_c1.f (J : Jn (AEnd × H)) (x0 x1 x2 : AV) (h : H) : Option (AEnd × H) := J [] [] ⟨[(0, x0), (1, x1), (2, x2)], [], [], h⟩
theorem prog_Check_c1.f_eq {call : Cl} {n : Nat} {J : Jn (AEnd × H)} (hJ : prog_Check_c1.F call n J) (x0 x1 x2 : AV) (h : H) : prog_Check_c1.f J x0 x1 x2 h =
  (bx h (AV.copy x0)).bind fun p1 =>
  (fAddr 0 p1.1).bind fun v2 =>
  (ldCell p1.2 v2).bind fun v3 =>
  (ldCell p1.2 x1).bind fun v4 =>
  (bin .sub v4 (.int .i64 1)).bind fun v5 =>
  (call n_prog_some [AV.canon v3, AV.canon v5] p1.2).bind fun p6 => retOr p6.1 (fun r7p => some (AEnd.pan r7p, p6.2)) fun r7 =>
  (unOp .not r7).bind fun v8 =>
  condV v8 (
    some (AEnd.ret (AV.copy (.bool true)), p6.2)) (
    (fAddr 1 p1.1).bind fun v9 =>
    (ldCell p6.2 v9).bind fun v10 =>
    (ldCell p6.2 x1).bind fun v11 =>
    (bin .sub v11 (.int .i64 1)).bind fun v12 =>
    (call n_prog_some [AV.canon v10, AV.canon v12] p6.2).bind fun p13 => retOr p13.1 (fun r14p => some (AEnd.pan r14p, p13.2)) fun r14 =>
    (unOp .not r14).bind fun v15 =>
    condV v15 (
      some (AEnd.ret (AV.copy (.bool true)), p13.2)) (
      (fAddr 2 p1.1).bind fun v16 =>
      (ldAgg 5 p13.2 v16).bind fun v17 =>
      (fAddr 1 x2).bind fun v18 =>
      (ldCell p13.2 v18).bind fun v19 =>
      (lnSl v19).bind fun v20 =>
      (call n_prog_Right [AV.canon v17, AV.canon v20] p13.2).bind fun p21 => retOr p21.1 (fun r22p => some (AEnd.pan r22p, p21.2)) fun r22 =>
      (unOp .not r22).bind fun v23 =>
      some (AEnd.ret (AV.copy v23), p21.2))) := (hJ _ _ _ (by kernel_rfl)).trans (by kernel_rfl)
/-! ### warrantor/prog.some: function 131 -/
noncomputable def prog_some.A : FAnn := { nv := 4, mv := [(1, 3), (1, 4)], ld := [], lst := [], obj := [], q := [], raw := [] }
noncomputable def prog_some.an : Ann := .nil
noncomputable abbrev prog_some.c : Code := Tryz.f131.body.getD .skip
noncomputable def prog_some.J (call : Cl) (n : Nat) : Jn (AEnd × H) := realJ Tryz.prog prog_some.A call Tryz.f131 prog_some.an prog_some.c n
abbrev prog_some.F (call : Cl) (n : Nat) (J : Jn (AEnd × H)) : Prop := JFix Tryz.prog prog_some.A call Tryz.f131 prog_some.an prog_some.c n J
def prog_some.f (J : Jn (AEnd × H)) (x0 x1 : AV) (h : H) : Option (AEnd × H) := J [] [] ⟨[(0, x0), (1, x1)], [], [], h⟩
theorem prog_some.f_eq {call : Cl} {n : Nat} {J : Jn (AEnd × H)} (hJ : prog_some.F call n J) (x0 x1 : AV) (h : H) : prog_some.f J x0 x1 h =
  (bin .geq x0 (.int .i64 0)).bind fun v1 =>
  condV v1 (
    (bin .leq x0 x1).bind fun v2 =>
    some (AEnd.ret (AV.copy v2), h)) (
    some (AEnd.ret (AV.copy (.bool false)), h)) := (hJ _ _ _ (by kernel_rfl)).trans (by kernel_rfl)
/-! ### warrantor/prog.Right: function 132 -/
noncomputable def prog_Right.A : FAnn := { nv := 4, mv := [(3, 5)], ld := [], lst := [], obj := [], q := [156], raw := [] }
noncomputable def prog_Right.an : Ann := .mk none .nil (.mk none (.mk none .nil (.mk (some [(1, 0), (2, 0), (13, 0)]) .nil .nil)) (.mk (some [(1, 0), (2, 0)]) .nil .nil))
noncomputable abbrev prog_Right.c : Code := Tryz.f132.body.getD .skip
noncomputable def prog_Right.J (call : Cl) (n : Nat) : Jn (AEnd × H) := realJ Tryz.prog prog_Right.A call Tryz.f132 prog_Right.an prog_Right.c n
abbrev prog_Right.F (call : Cl) (n : Nat) (J : Jn (AEnd × H)) : Prop := JFix Tryz.prog prog_Right.A call Tryz.f132 prog_Right.an prog_Right.c n J
def prog_Right.f (J : Jn (AEnd × H)) (x0 x1 : AV) (h : H) : Option (AEnd × H) := J [] [] ⟨[(0, x0), (1, x1)], [], [], h⟩
def prog_Right.j1 (J : Jn (AEnd × H)) (x1 x2 x13 : AV) (h : H) : Option (AEnd × H) := J [1, 0, 1] [] ⟨[(1, x1), (2, x2), (13, x13)], [(1, 0), (2, 0), (13, 0)], [], h⟩
def prog_Right.j0 (J : Jn (AEnd × H)) (x1 x2 : AV) (h : H) : Option (AEnd × H) := J [1, 1] [] ⟨[(1, x1), (2, x2)], [(1, 0), (2, 0)], [], h⟩
theorem prog_Right.f_eq {call : Cl} {n : Nat} {J : Jn (AEnd × H)} (hJ : prog_Right.F call n J) (x0 x1 : AV) (h : H) : prog_Right.f J x0 x1 h =
  (bx h (AV.copy x0)).bind fun p1 =>
  (call n_prog_some [AV.canon x1, AV.canon (.int .i64 8)] p1.2).bind fun p2 => retOr p2.1 (fun r3p => some (AEnd.pan r3p, p2.2)) fun r3 =>
  (unOp .not r3).bind fun v4 =>
  condV v4 (
    prog_Right.j1 J  x1 p1.1 (.bool true) p2.2) (
    (fAddr 0 p1.1).bind fun v5 =>
    (ldCell p2.2 v5).bind fun v6 =>
    (call n_prog_one [AV.canon v6, AV.canon (.int .i64 5)] p2.2).bind fun p7 => retOr p7.1 (fun r8p => some (AEnd.pan r8p, p7.2)) fun r8 =>
    (unOp .not r8).bind fun v9 =>
    prog_Right.j1 J  x1 p1.1 v9 p7.2) := (hJ _ _ _ (by kernel_rfl)).trans (by kernel_rfl)
theorem prog_Right.j1_eq {call : Cl} {n : Nat} {J : Jn (AEnd × H)} (hJ : prog_Right.F call n J) (x1 x2 x13 : AV) (h : H) : prog_Right.j1 J  x1 x2 x13 h =
  condV x13 (
    some (AEnd.ret (.bool false), h)) (
    prog_Right.j0 J  x1 x2 h) := (hJ _ _ _ (by kernel_rfl)).trans (by kernel_rfl)
theorem prog_Right.j0_eq {call : Cl} {n : Nat} {J : Jn (AEnd × H)} (hJ : prog_Right.F call n J) (x1 x2 : AV) (h : H) : prog_Right.j0 J  x1 x2 h =
  (call n_prog_kinds [] h).bind fun p10 => retOr p10.1 (fun _ => none) fun r11 =>
  (fAddr 0 x2).bind fun v12 =>
  (ldCell p10.2 v12).bind fun v13 =>
  (ixAgg false 1 6 r11 v13).bind fun v14 =>
  (ldAgg 5 p10.2 x2).bind fun v15 =>
  (callVal call p10.2 v14 [AV.canon v15, AV.canon x1]).bind fun p16 => retOr p16.1 (fun _ => none) fun r17 =>
  some (AEnd.ret (AV.copy r17), p16.2) := (hJ _ _ _ (by kernel_rfl)).trans (by kernel_rfl)
/-! ### warrantor/prog.name: function 133 -/
noncomputable def prog_name.A : FAnn := { nv := 2, mv := [(1, 0)], ld := [], lst := [], obj := [], q := [], raw := [] }
noncomputable def prog_name.an : Ann := .nil
noncomputable abbrev prog_name.c : Code := Tryz.f133.body.getD .skip
noncomputable def prog_name.J (call : Cl) (n : Nat) : Jn (AEnd × H) := realJ Tryz.prog prog_name.A call Tryz.f133 prog_name.an prog_name.c n
abbrev prog_name.F (call : Cl) (n : Nat) (J : Jn (AEnd × H)) : Prop := JFix Tryz.prog prog_name.A call Tryz.f133 prog_name.an prog_name.c n J
def prog_name.f (J : Jn (AEnd × H)) (x0 : AV) (h : H) : Option (AEnd × H) := J [] [] ⟨[(0, x0)], [], [], h⟩
theorem prog_name.f_eq {call : Cl} {n : Nat} {J : Jn (AEnd × H)} (hJ : prog_name.F call n J) (x0 : AV) (h : H) : prog_name.f J x0 h =
  (call n_prog_named [AV.canon x0, AV.canon (.int .i64 32), AV.canon (.func (.func n_prog_plain) [] [])] h).bind fun p1 => retOr p1.1 (fun r2p => some (AEnd.pan r2p, p1.2)) fun r2 =>
  some (AEnd.ret r2, p1.2) := (hJ _ _ _ (by kernel_rfl)).trans (by kernel_rfl)
/-! ### warrantor/prog.vars: function 134 -/
noncomputable def prog_vars.A : FAnn := { nv := 6, mv := [(6, 5), (9, 0)], ld := [], lst := [], obj := [], q := [], raw := [] }
noncomputable def prog_vars.an : Ann := .mk none .nil (.mk none .nil (.mk none (.mk none .nil (.mk none (.mk none (.mk (some [(0, 0), (3, 0), (8, 0), (9, 0), (10, 0)]) .nil (.mk none .nil (.mk none (.mk none (.mk none .nil (.mk none .nil (.mk none .nil (.mk (some [(0, 0), (3, 0), (8, 0), (9, 0), (10, 0), (26, 0)]) .nil .nil)))) .nil) .nil))) .nil) .nil)) .nil))
noncomputable abbrev prog_vars.c : Code := Tryz.f134.body.getD .skip
noncomputable def prog_vars.J (call : Cl) (n : Nat) : Jn (AEnd × H) := realJ Tryz.prog prog_vars.A call Tryz.f134 prog_vars.an prog_vars.c n
abbrev prog_vars.F (call : Cl) (n : Nat) (J : Jn (AEnd × H)) : Prop := JFix Tryz.prog prog_vars.A call Tryz.f134 prog_vars.an prog_vars.c n J
def prog_vars.f (J : Jn (AEnd × H)) (x0 : AV) (h : H) : Option (AEnd × H) := J [] [] ⟨[(0, x0)], [], [], h⟩
def prog_vars.l0 (J : Jn (AEnd × H)) (m0 : Nat) (x0 x3 x8 x9 x10 : AV) (h : H) : Option (AEnd × H) := J [1, 1, 0, 1, 0] [m0] ⟨[(0, x0), (3, x3), (8, x8), (9, x9), (10, x10)], [(0, 0), (3, 0), (8, 0), (9, 0), (10, 0)], [], h⟩
def prog_vars.j0 (J : Jn (AEnd × H)) (m0 : Nat) (x0 x3 x8 x9 x10 x26 : AV) (h : H) : Option (AEnd × H) := J [1, 1, 0, 1, 0, 0, 1, 1, 0, 0, 1, 1, 1] [m0] ⟨[(0, x0), (3, x3), (8, x8), (9, x9), (10, x10), (26, x26)], [(0, 0), (3, 0), (8, 0), (9, 0), (10, 0), (26, 0)], [], h⟩
theorem prog_vars.f_eq {call : Cl} {n : Nat} {J : Jn (AEnd × H)} (hJ : prog_vars.F call n J) (x0 : AV) (h : H) : prog_vars.f J x0 h =
  let h1 : H := h ++ [.map []]
  (upMap .str h1 (.map h.length) (.str [115, 107, 105, 112]) (.int .i64 1)).bind fun p2 =>
  (upMap .str p2.2 (.map h.length) (.str [97, 110, 121]) (.int .i64 1)).bind fun p3 =>
  (upMap .str p3.2 (.map h.length) (.str [108, 105, 109, 105, 116]) (.int .i64 1)).bind fun p4 =>
  (upMap .str p4.2 (.map h.length) (.str [99, 104, 101, 99, 107]) (.int .i64 1)).bind fun p5 =>
  (upMap .str p5.2 (.map h.length) (.str [105, 110, 102]) (.int .i64 1)).bind fun p6 =>
  (lnSl x0).bind fun v7 =>
  prog_vars.l0 J n x0 (.map h.length) x0 v7 (.int .i64 0) p6.2 := (hJ _ _ _ (by kernel_rfl)).trans (by kernel_rfl)
theorem prog_vars.l0_eq {call : Cl} {n : Nat} {J : Jn (AEnd × H)} (hJ : prog_vars.F call n J) (m0 : Nat) (x0 x3 x8 x9 x10 : AV) (h : H) : prog_vars.l0 J (m0 + 1) x0 x3 x8 x9 x10 h =
  (bin .lss x10 x9).bind fun v8 =>
  condV v8 (
    (ixSlice 1 x8 x10).bind fun v9 =>
    (ldCell h v9).bind fun v10 =>
    (lkMap .str (.int .i64 0) h x3 v10 false).bind fun v11 =>
    (bin .add v11 (.int .i64 1)).bind fun v12 =>
    (upMap .str h x3 v10 v12).bind fun p13 =>
    (call n_prog_name [AV.canon v10] p13.2).bind fun p14 => retOr p14.1 (fun r15p => some (AEnd.pan r15p, p14.2)) fun r15 =>
    (unOp .not r15).bind fun v16 =>
    condV v16 (
      prog_vars.j0 J m0 x0 x3 x8 x9 x10 (.bool true) p14.2) (
      (lkMap .str (.int .i64 0) p14.2 x3 v10 false).bind fun v17 =>
      (bin .gtr v17 (.int .i64 1)).bind fun v18 =>
      prog_vars.j0 J m0 x0 x3 x8 x9 x10 v18 p14.2)) (
    (lnSl x0).bind fun v19 =>
    (bin .leq v19 (.int .i64 8)).bind fun v20 =>
    some (AEnd.ret (AV.copy v20), h)) := (hJ _ _ _ (by kernel_rfl)).trans (by kernel_rfl)
theorem prog_vars.j0_eq {call : Cl} {n : Nat} {J : Jn (AEnd × H)} (hJ : prog_vars.F call n J) (m0 : Nat) (x0 x3 x8 x9 x10 x26 : AV) (h : H) : prog_vars.j0 J m0 x0 x3 x8 x9 x10 x26 h =
  condV x26 (
    some (AEnd.ret (.bool false), h)) (
    (bin .add x10 (.int .i64 1)).bind fun v21 =>
    prog_vars.l0 J m0 x0 x3 x8 x9 v21 h) := (hJ _ _ _ (by kernel_rfl)).trans (by kernel_rfl)
/-! ### warrantor/prog.one: function 135 -/
noncomputable def prog_one.A : FAnn := { nv := 4, mv := [(1, 3), (1, 4)], ld := [], lst := [], obj := [], q := [], raw := [] }
noncomputable def prog_one.an : Ann := .nil
noncomputable abbrev prog_one.c : Code := Tryz.f135.body.getD .skip
noncomputable def prog_one.J (call : Cl) (n : Nat) : Jn (AEnd × H) := realJ Tryz.prog prog_one.A call Tryz.f135 prog_one.an prog_one.c n
abbrev prog_one.F (call : Cl) (n : Nat) (J : Jn (AEnd × H)) : Prop := JFix Tryz.prog prog_one.A call Tryz.f135 prog_one.an prog_one.c n J
def prog_one.f (J : Jn (AEnd × H)) (x0 x1 : AV) (h : H) : Option (AEnd × H) := J [] [] ⟨[(0, x0), (1, x1)], [], [], h⟩
theorem prog_one.f_eq {call : Cl} {n : Nat} {J : Jn (AEnd × H)} (hJ : prog_one.F call n J) (x0 x1 : AV) (h : H) : prog_one.f J x0 x1 h =
  (bin .geq x0 (.int .i64 1)).bind fun v1 =>
  condV v1 (
    (bin .leq x0 x1).bind fun v2 =>
    some (AEnd.ret (AV.copy v2), h)) (
    some (AEnd.ret (AV.copy (.bool false)), h)) := (hJ _ _ _ (by kernel_rfl)).trans (by kernel_rfl)
/-! ### slices.ContainsFunc[[]warrantor/api.Spot,warrantor/api.Spot]: function 136 -/
noncomputable def slices_ContainsFunc_api_Spot_api_Spot.A : FAnn := { nv := 4, mv := [(1, 0), (1, 1)], ld := [], lst := [], obj := [], q := [], raw := [] }
noncomputable def slices_ContainsFunc_api_Spot_api_Spot.an : Ann := .nil
noncomputable abbrev slices_ContainsFunc_api_Spot_api_Spot.c : Code := Tryz.f136.body.getD .skip
noncomputable def slices_ContainsFunc_api_Spot_api_Spot.J (call : Cl) (n : Nat) : Jn (AEnd × H) := realJ Tryz.prog slices_ContainsFunc_api_Spot_api_Spot.A call Tryz.f136 slices_ContainsFunc_api_Spot_api_Spot.an slices_ContainsFunc_api_Spot_api_Spot.c n
abbrev slices_ContainsFunc_api_Spot_api_Spot.F (call : Cl) (n : Nat) (J : Jn (AEnd × H)) : Prop := JFix Tryz.prog slices_ContainsFunc_api_Spot_api_Spot.A call Tryz.f136 slices_ContainsFunc_api_Spot_api_Spot.an slices_ContainsFunc_api_Spot_api_Spot.c n J
def slices_ContainsFunc_api_Spot_api_Spot.f (J : Jn (AEnd × H)) (x0 x1 : AV) (h : H) : Option (AEnd × H) := J [] [] ⟨[(0, x0), (1, x1)], [], [], h⟩
theorem slices_ContainsFunc_api_Spot_api_Spot.f_eq {call : Cl} {n : Nat} {J : Jn (AEnd × H)} (hJ : slices_ContainsFunc_api_Spot_api_Spot.F call n J) (x0 x1 : AV) (h : H) : slices_ContainsFunc_api_Spot_api_Spot.f J x0 x1 h =
  (call n_slices_IndexFunc_api_Spot_api_Spot [AV.canon x0, AV.canon x1] h).bind fun p1 => retOr p1.1 (fun r2p => some (AEnd.pan r2p, p1.2)) fun r2 =>
  (bin .geq r2 (.int .i64 0)).bind fun v3 =>
  some (AEnd.ret (AV.copy v3), p1.2) := (hJ _ _ _ (by kernel_rfl)).trans (by kernel_rfl)
/-! ### warrantor/prog.Check$2: function 137 -/
noncomputable def prog_Check_c2.A : FAnn := { nv := 2, mv := [], ld := [], lst := [], obj := [], q := [], raw := [] }
noncomputable def prog_Check_c2.an : Ann := .nil
noncomputable abbrev prog_Check_c2.c : Code := Tryz.f137.body.getD .skip
noncomputable def prog_Check_c2.J (call : Cl) (n : Nat) : Jn (AEnd × H) := realJ Tryz.prog prog_Check_c2.A call Tryz.f137 prog_Check_c2.an prog_Check_c2.c n
abbrev prog_Check_c2.F (call : Cl) (n : Nat) (J : Jn (AEnd × H)) : Prop := JFix Tryz.prog prog_Check_c2.A call Tryz.f137 prog_Check_c2.an prog_Check_c2.c n J
def prog_Check_c2.f (J : Jn (AEnd × H)) (x0 : AV) (h : H) : Option (AEnd × H) := J [] [] ⟨[(0, x0)], [], [], h⟩
theorem prog_Check_c2.f_eq {call : Cl} {n : Nat} {J : Jn (AEnd × H)} (hJ : prog_Check_c2.F call n J) (x0 : AV) (h : H) : prog_Check_c2.f J x0 h =
  (bx h (AV.copy x0)).bind fun p1 =>
  (ldAgg 3 p1.2 p1.1).bind fun v2 =>
  (call n_prog_spot [AV.canon v2] p1.2).bind fun p3 => retOr p3.1 (fun r4p => some (AEnd.pan r4p, p3.2)) fun r4 =>
  (unOp .not r4).bind fun v5 =>
  some (AEnd.ret (AV.copy v5), p3.2) := (hJ _ _ _ (by kernel_rfl)).trans (by kernel_rfl)
/-! ### warrantor/prog.spot: function 138 -/
noncomputable def prog_spot.A : FAnn := { nv := 2, mv := [], ld := [], lst := [], obj := [], q := [], raw := [] }
noncomputable def prog_spot.an : Ann := .nil
noncomputable abbrev prog_spot.c : Code := Tryz.f138.body.getD .skip
noncomputable def prog_spot.J (call : Cl) (n : Nat) : Jn (AEnd × H) := realJ Tryz.prog prog_spot.A call Tryz.f138 prog_spot.an prog_spot.c n
abbrev prog_spot.F (call : Cl) (n : Nat) (J : Jn (AEnd × H)) : Prop := JFix Tryz.prog prog_spot.A call Tryz.f138 prog_spot.an prog_spot.c n J
def prog_spot.f (J : Jn (AEnd × H)) (x0 : AV) (h : H) : Option (AEnd × H) := J [] [] ⟨[(0, x0)], [], [], h⟩
theorem prog_spot.f_eq {call : Cl} {n : Nat} {J : Jn (AEnd × H)} (hJ : prog_spot.F call n J) (x0 : AV) (h : H) : prog_spot.f J x0 h =
  (bx h (AV.copy x0)).bind fun p1 =>
  (fAddr 0 p1.1).bind fun v2 =>
  (ldCell p1.2 v2).bind fun v3 =>
  (call n_prog_name [AV.canon v3] p1.2).bind fun p4 => retOr p4.1 (fun r5p => some (AEnd.pan r5p, p4.2)) fun r5 =>
  condV r5 (
    (fAddr 1 p1.1).bind fun v6 =>
    (ldCell p4.2 v6).bind fun v7 =>
    (call n_prog_named [AV.canon v7, AV.canon (.int .i64 64), AV.canon (.func (.func n_prog_path) [] [])] p4.2).bind fun p8 => retOr p8.1 (fun r9p => some (AEnd.pan r9p, p8.2)) fun r9 =>
    condV r9 (
      (fAddr 2 p1.1).bind fun v10 =>
      (ldCell p8.2 v10).bind fun v11 =>
      (call n_prog_one [AV.canon v11, AV.canon (.int .i64 1048576)] p8.2).bind fun p12 => retOr p12.1 (fun r13p => some (AEnd.pan r13p, p12.2)) fun r13 =>
      some (AEnd.ret (AV.copy r13), p12.2)) (
      some (AEnd.ret (AV.copy (.bool false)), p8.2))) (
    some (AEnd.ret (AV.copy (.bool false)), p4.2)) := (hJ _ _ _ (by kernel_rfl)).trans (by kernel_rfl)
/-! ### slices.ContainsFunc[[]warrantor/api.Edge,warrantor/api.Edge]: function 139 -/
noncomputable def slices_ContainsFunc_api_Edge_api_Edge.A : FAnn := { nv := 4, mv := [(1, 0), (1, 1)], ld := [], lst := [], obj := [], q := [], raw := [] }
noncomputable def slices_ContainsFunc_api_Edge_api_Edge.an : Ann := .nil
noncomputable abbrev slices_ContainsFunc_api_Edge_api_Edge.c : Code := Tryz.f139.body.getD .skip
noncomputable def slices_ContainsFunc_api_Edge_api_Edge.J (call : Cl) (n : Nat) : Jn (AEnd × H) := realJ Tryz.prog slices_ContainsFunc_api_Edge_api_Edge.A call Tryz.f139 slices_ContainsFunc_api_Edge_api_Edge.an slices_ContainsFunc_api_Edge_api_Edge.c n
abbrev slices_ContainsFunc_api_Edge_api_Edge.F (call : Cl) (n : Nat) (J : Jn (AEnd × H)) : Prop := JFix Tryz.prog slices_ContainsFunc_api_Edge_api_Edge.A call Tryz.f139 slices_ContainsFunc_api_Edge_api_Edge.an slices_ContainsFunc_api_Edge_api_Edge.c n J
def slices_ContainsFunc_api_Edge_api_Edge.f (J : Jn (AEnd × H)) (x0 x1 : AV) (h : H) : Option (AEnd × H) := J [] [] ⟨[(0, x0), (1, x1)], [], [], h⟩
theorem slices_ContainsFunc_api_Edge_api_Edge.f_eq {call : Cl} {n : Nat} {J : Jn (AEnd × H)} (hJ : slices_ContainsFunc_api_Edge_api_Edge.F call n J) (x0 x1 : AV) (h : H) : slices_ContainsFunc_api_Edge_api_Edge.f J x0 x1 h =
  (call n_slices_IndexFunc_api_Edge_api_Edge [AV.canon x0, AV.canon x1] h).bind fun p1 => retOr p1.1 (fun r2p => some (AEnd.pan r2p, p1.2)) fun r2 =>
  (bin .geq r2 (.int .i64 0)).bind fun v3 =>
  some (AEnd.ret (AV.copy v3), p1.2) := (hJ _ _ _ (by kernel_rfl)).trans (by kernel_rfl)
/-! ### warrantor/result.note: function 140 -/
noncomputable def result_note.A : FAnn := { nv := 4, mv := [(2, 4), (2, 5)], ld := [], lst := [], obj := [], q := [], raw := [] }
noncomputable def result_note.an : Ann := .nil
noncomputable abbrev result_note.c : Code := Tryz.f140.body.getD .skip
noncomputable def result_note.J (call : Cl) (n : Nat) : Jn (AEnd × H) := realJ Tryz.prog result_note.A call Tryz.f140 result_note.an result_note.c n
abbrev result_note.F (call : Cl) (n : Nat) (J : Jn (AEnd × H)) : Prop := JFix Tryz.prog result_note.A call Tryz.f140 result_note.an result_note.c n J
def result_note.f (J : Jn (AEnd × H)) (x0 : AV) (h : H) : Option (AEnd × H) := J [] [] ⟨[(0, x0)], [], [], h⟩
theorem result_note.f_eq {call : Cl} {n : Nat} {J : Jn (AEnd × H)} (hJ : result_note.F call n J) (x0 : AV) (h : H) : result_note.f J x0 h =
  (lnStr x0).bind fun v1 =>
  (bin .leq v1 (.int .i64 64)).bind fun v2 =>
  condV v2 (
    (call n_strings_ContainsFunc [AV.canon x0, AV.canon (.func (.func n_result_note_c1) [] [])] h).bind fun p3 => retOr p3.1 (fun r4p => some (AEnd.pan r4p, p3.2)) fun r4 =>
    (unOp .not r4).bind fun v5 =>
    some (AEnd.ret (AV.copy v5), p3.2)) (
    some (AEnd.ret (AV.copy (.bool false)), h)) := (hJ _ _ _ (by kernel_rfl)).trans (by kernel_rfl)
/-! ### warrantor/warrantorref11.more: function 141 -/
noncomputable def warrantorref11_more.A : FAnn := { nv := 2, mv := [(1, 11)], ld := [], lst := [], obj := [], q := [], raw := [] }
noncomputable def warrantorref11_more.an : Ann := .nil
noncomputable abbrev warrantorref11_more.c : Code := Tryz.f141.body.getD .skip
noncomputable def warrantorref11_more.J (call : Cl) (n : Nat) : Jn (AEnd × H) := realJ Tryz.prog warrantorref11_more.A call Tryz.f141 warrantorref11_more.an warrantorref11_more.c n
abbrev warrantorref11_more.F (call : Cl) (n : Nat) (J : Jn (AEnd × H)) : Prop := JFix Tryz.prog warrantorref11_more.A call Tryz.f141 warrantorref11_more.an warrantorref11_more.c n J
def warrantorref11_more.f (J : Jn (AEnd × H)) (x0 : AV) (h : H) : Option (AEnd × H) := J [] [] ⟨[(0, x0)], [], [], h⟩
theorem warrantorref11_more.f_eq {call : Cl} {n : Nat} {J : Jn (AEnd × H)} (hJ : warrantorref11_more.F call n J) (x0 : AV) (h : H) : warrantorref11_more.f J x0 h =
  (call n_warrantorref11_letter [AV.canon x0] h).bind fun p1 => retOr p1.1 (fun r2p => some (AEnd.pan r2p, p1.2)) fun r2 =>
  condV r2 (
    some (AEnd.ret (AV.copy (.bool true)), p1.2)) (
    (bin .geq x0 (.int .u8 48)).bind fun v3 =>
    condV v3 (
      (bin .leq x0 (.int .u8 57)).bind fun v4 =>
      condV v4 (
        some (AEnd.ret (AV.copy (.bool true)), p1.2)) (
        (bin .eql x0 (.int .u8 46)).bind fun v5 =>
        some (AEnd.ret (AV.copy v5), p1.2))) (
      (bin .eql x0 (.int .u8 46)).bind fun v6 =>
      some (AEnd.ret (AV.copy v6), p1.2))) := (hJ _ _ _ (by kernel_rfl)).trans (by kernel_rfl)
/-! ### warrantor/warrantorref11.letter: function 142 -/
noncomputable def warrantorref11_letter.A : FAnn := { nv := 2, mv := [(1, 15)], ld := [], lst := [], obj := [], q := [], raw := [] }
noncomputable def warrantorref11_letter.an : Ann := .nil
noncomputable abbrev warrantorref11_letter.c : Code := Tryz.f142.body.getD .skip
noncomputable def warrantorref11_letter.J (call : Cl) (n : Nat) : Jn (AEnd × H) := realJ Tryz.prog warrantorref11_letter.A call Tryz.f142 warrantorref11_letter.an warrantorref11_letter.c n
abbrev warrantorref11_letter.F (call : Cl) (n : Nat) (J : Jn (AEnd × H)) : Prop := JFix Tryz.prog warrantorref11_letter.A call Tryz.f142 warrantorref11_letter.an warrantorref11_letter.c n J
def warrantorref11_letter.f (J : Jn (AEnd × H)) (x0 : AV) (h : H) : Option (AEnd × H) := J [] [] ⟨[(0, x0)], [], [], h⟩
theorem warrantorref11_letter.f_eq {call : Cl} {n : Nat} {J : Jn (AEnd × H)} (hJ : warrantorref11_letter.F call n J) (x0 : AV) (h : H) : warrantorref11_letter.f J x0 h =
  (bin .geq x0 (.int .u8 97)).bind fun v1 =>
  condV v1 (
    (bin .leq x0 (.int .u8 122)).bind fun v2 =>
    condV v2 (
      some (AEnd.ret (AV.copy (.bool true)), h)) (
      (bin .geq x0 (.int .u8 65)).bind fun v3 =>
      condV v3 (
        (bin .leq x0 (.int .u8 90)).bind fun v4 =>
        condV v4 (
          some (AEnd.ret (AV.copy (.bool true)), h)) (
          (bin .eql x0 (.int .u8 95)).bind fun v5 =>
          some (AEnd.ret (AV.copy v5), h))) (
        (bin .eql x0 (.int .u8 95)).bind fun v6 =>
        some (AEnd.ret (AV.copy v6), h)))) (
    (bin .geq x0 (.int .u8 65)).bind fun v7 =>
    condV v7 (
      (bin .leq x0 (.int .u8 90)).bind fun v8 =>
      condV v8 (
        some (AEnd.ret (AV.copy (.bool true)), h)) (
        (bin .eql x0 (.int .u8 95)).bind fun v9 =>
        some (AEnd.ret (AV.copy v9), h))) (
      (bin .eql x0 (.int .u8 95)).bind fun v10 =>
      some (AEnd.ret (AV.copy v10), h))) := (hJ _ _ _ (by kernel_rfl)).trans (by kernel_rfl)
/-! ### slices.IndexFunc[[]warrantor/api.Change,warrantor/api.Change]: function 143 -/
noncomputable def slices_IndexFunc_api_Change_api_Change.A : FAnn := { nv := 6, mv := [(5, 0)], ld := [], lst := [], obj := [], q := [], raw := [] }
noncomputable def slices_IndexFunc_api_Change_api_Change.an : Ann := .mk none .nil (.mk none (.mk none .nil (.mk none (.mk none (.mk (some [(0, 0), (1, 0), (7, 0), (8, 0)]) .nil .nil) .nil) .nil)) .nil)
noncomputable abbrev slices_IndexFunc_api_Change_api_Change.c : Code := Tryz.f143.body.getD .skip
noncomputable def slices_IndexFunc_api_Change_api_Change.J (call : Cl) (n : Nat) : Jn (AEnd × H) := realJ Tryz.prog slices_IndexFunc_api_Change_api_Change.A call Tryz.f143 slices_IndexFunc_api_Change_api_Change.an slices_IndexFunc_api_Change_api_Change.c n
abbrev slices_IndexFunc_api_Change_api_Change.F (call : Cl) (n : Nat) (J : Jn (AEnd × H)) : Prop := JFix Tryz.prog slices_IndexFunc_api_Change_api_Change.A call Tryz.f143 slices_IndexFunc_api_Change_api_Change.an slices_IndexFunc_api_Change_api_Change.c n J
def slices_IndexFunc_api_Change_api_Change.f (J : Jn (AEnd × H)) (x0 x1 : AV) (h : H) : Option (AEnd × H) := J [] [] ⟨[(0, x0), (1, x1)], [], [], h⟩
def slices_IndexFunc_api_Change_api_Change.l0 (J : Jn (AEnd × H)) (m0 : Nat) (x0 x1 x7 x8 : AV) (h : H) : Option (AEnd × H) := J [1, 0, 1, 0] [m0] ⟨[(0, x0), (1, x1), (7, x7), (8, x8)], [(0, 0), (1, 0), (7, 0), (8, 0)], [], h⟩
theorem slices_IndexFunc_api_Change_api_Change.f_eq {call : Cl} {n : Nat} {J : Jn (AEnd × H)} (hJ : slices_IndexFunc_api_Change_api_Change.F call n J) (x0 x1 : AV) (h : H) : slices_IndexFunc_api_Change_api_Change.f J x0 x1 h =
  (lnSl x0).bind fun v1 =>
  slices_IndexFunc_api_Change_api_Change.l0 J n x0 x1 v1 (.int .i64 0) h := (hJ _ _ _ (by kernel_rfl)).trans (by kernel_rfl)
theorem slices_IndexFunc_api_Change_api_Change.l0_eq {call : Cl} {n : Nat} {J : Jn (AEnd × H)} (hJ : slices_IndexFunc_api_Change_api_Change.F call n J) (m0 : Nat) (x0 x1 x7 x8 : AV) (h : H) : slices_IndexFunc_api_Change_api_Change.l0 J (m0 + 1) x0 x1 x7 x8 h =
  (bin .lss x8 x7).bind fun v2 =>
  condV v2 (
    (ixSlice 11 x0 x8).bind fun v3 =>
    (ldAgg 11 h v3).bind fun v4 =>
    (callVal call h x1 [AV.canon v4]).bind fun p5 => retOr p5.1 (fun r6p => some (AEnd.pan r6p, p5.2)) fun r6 =>
    condV r6 (
      some (AEnd.ret (AV.copy x8), p5.2)) (
      (bin .add x8 (.int .i64 1)).bind fun v7 =>
      slices_IndexFunc_api_Change_api_Change.l0 J m0 x0 x1 x7 v7 p5.2)) (
    some (AEnd.ret (.int .i64 (-1)), h)) := (hJ _ _ _ (by kernel_rfl)).trans (by kernel_rfl)
/-! ### warrantor/crc.bits: function 144 -/
noncomputable def crc_bits.A : FAnn := { nv := 4, mv := [(1, 0), (3, 2), (5, 0)], ld := [], lst := [], obj := [], q := [], raw := [] }
noncomputable def crc_bits.an : Ann := .mk none .nil (.mk none (.mk none .nil (.mk none (.mk none (.mk (some [(0, 0), (5, 0), (6, 0)]) .nil .nil) .nil) .nil)) .nil)
noncomputable abbrev crc_bits.c : Code := Tryz.f144.body.getD .skip
noncomputable def crc_bits.J (call : Cl) (n : Nat) : Jn (AEnd × H) := realJ Tryz.prog crc_bits.A call Tryz.f144 crc_bits.an crc_bits.c n
abbrev crc_bits.F (call : Cl) (n : Nat) (J : Jn (AEnd × H)) : Prop := JFix Tryz.prog crc_bits.A call Tryz.f144 crc_bits.an crc_bits.c n J
def crc_bits.f (J : Jn (AEnd × H)) (x0 x1 : AV) (h : H) : Option (AEnd × H) := J [] [] ⟨[(0, x0), (1, x1)], [], [], h⟩
def crc_bits.l0 (J : Jn (AEnd × H)) (m0 : Nat) (x0 x5 x6 : AV) (h : H) : Option (AEnd × H) := J [1, 0, 1, 0] [m0] ⟨[(0, x0), (5, x5), (6, x6)], [(0, 0), (5, 0), (6, 0)], [], h⟩
theorem crc_bits.f_eq {call : Cl} {n : Nat} {J : Jn (AEnd × H)} (hJ : crc_bits.F call n J) (x0 x1 : AV) (h : H) : crc_bits.f J x0 x1 h =
  crc_bits.l0 J n x0 x1 (.int .i64 0) h := (hJ _ _ _ (by kernel_rfl)).trans (by kernel_rfl)
theorem crc_bits.l0_eq {call : Cl} {n : Nat} {J : Jn (AEnd × H)} (hJ : crc_bits.F call n J) (m0 : Nat) (x0 x5 x6 : AV) (h : H) : crc_bits.l0 J (m0 + 1) x0 x5 x6 h =
  (bin .lss x6 x5).bind fun v1 =>
  condV v1 (
    (bin .shr x0 (.int .u64 1)).bind fun v2 =>
    (bin .and x0 (.int .u32 1)).bind fun v3 =>
    (unOp .neg v3).bind fun v4 =>
    (bin .and (.int .u32 2197175160) v4).bind fun v5 =>
    (bin .xor v2 v5).bind fun v6 =>
    (bin .add x6 (.int .i64 1)).bind fun v7 =>
    crc_bits.l0 J m0 v6 x5 v7 h) (
    some (AEnd.ret (AV.copy x0), h)) := (hJ _ _ _ (by kernel_rfl)).trans (by kernel_rfl)
/-! ### (*warrantor/cur.Reader).number: function 146 -/
noncomputable def cur_Reader_number.A : FAnn := { nv := 6, mv := [(3, 0), (4, 0), (4, 4), (5, 0)], ld := [], lst := [], obj := [], q := [163], raw := [] }
noncomputable def cur_Reader_number.an : Ann := .mk none .nil (.mk none .nil (.mk none .nil (.mk (some [(0, 0), (3, 0), (4, 0)]) .nil .nil)))
noncomputable abbrev cur_Reader_number.c : Code := Tryz.f146.body.getD .skip
noncomputable def cur_Reader_number.J (call : Cl) (n : Nat) : Jn (AEnd × H) := realJ Tryz.prog cur_Reader_number.A call Tryz.f146 cur_Reader_number.an cur_Reader_number.c n
abbrev cur_Reader_number.F (call : Cl) (n : Nat) (J : Jn (AEnd × H)) : Prop := JFix Tryz.prog cur_Reader_number.A call Tryz.f146 cur_Reader_number.an cur_Reader_number.c n J
def cur_Reader_number.f (J : Jn (AEnd × H)) (x0 : AV) (h : H) : Option (AEnd × H) := J [] [] ⟨[(0, x0)], [], [], h⟩
def cur_Reader_number.j0 (J : Jn (AEnd × H)) (x0 x3 x4 : AV) (h : H) : Option (AEnd × H) := J [1, 1, 1] [] ⟨[(0, x0), (3, x3), (4, x4)], [(0, 0), (3, 0), (4, 0)], [], h⟩
theorem cur_Reader_number.f_eq {call : Cl} {n : Nat} {J : Jn (AEnd × H)} (hJ : cur_Reader_number.F call n J) (x0 : AV) (h : H) : cur_Reader_number.f J x0 h =
  (nilOk x0).bind fun v1 =>
  (fAddr 0 v1).bind fun v2 =>
  (ldCell h v2).bind fun v3 =>
  (nilOk x0).bind fun v4 =>
  (fAddr 1 v4).bind fun v5 =>
  (ldCell h v5).bind fun v6 =>
  (slSlice 1 v3 (some v6) none none).bind fun v7 =>
  (call n_leb_Get [AV.canon v7] h).bind fun p8 => retOr p8.1 (fun _ => none) fun r9 =>
  (exTuple 0 r9).bind fun v10 =>
  (exTuple 1 r9).bind fun v11 =>
  (exTuple 2 r9).bind fun v12 =>
  (bin .neq v12 (.int .i64 0)).bind fun v13 =>
  condV v13 (
    (mkAgg [.int .i64 0] [(0, 1, AV.copy v12)]).bind fun v14 =>
    panOr (.iface t_cur_broken (AV.copy v14)) fun w => some (AEnd.pan w, p8.2)) (
    cur_Reader_number.j0 J  x0 v10 v11 p8.2) := (hJ _ _ _ (by kernel_rfl)).trans (by kernel_rfl)
theorem cur_Reader_number.j0_eq {call : Cl} {n : Nat} {J : Jn (AEnd × H)} (hJ : cur_Reader_number.F call n J) (x0 x3 x4 : AV) (h : H) : cur_Reader_number.j0 J  x0 x3 x4 h =
  (nilOk x0).bind fun v15 =>
  (fAddr 1 v15).bind fun v16 =>
  (ldCell h v16).bind fun v17 =>
  (bin .add v17 x4).bind fun v18 =>
  (nilOk x0).bind fun v19 =>
  (fAddr 1 v19).bind fun v20 =>
  (stN 1 h v20 (AV.copy v18)).bind fun p21 =>
  some (AEnd.ret (AV.copy x3), p21.2) := (hJ _ _ _ (by kernel_rfl)).trans (by kernel_rfl)
/-! ### (*warrantor/cur.Reader).Count: function 148 -/
noncomputable def cur_Reader_Count.A : FAnn := { nv := 4, mv := [(1, 0)], ld := [], lst := [], obj := [], q := [], raw := [] }
noncomputable def cur_Reader_Count.an : Ann := .nil
noncomputable abbrev cur_Reader_Count.c : Code := Tryz.f148.body.getD .skip
noncomputable def cur_Reader_Count.J (call : Cl) (n : Nat) : Jn (AEnd × H) := realJ Tryz.prog cur_Reader_Count.A call Tryz.f148 cur_Reader_Count.an cur_Reader_Count.c n
abbrev cur_Reader_Count.F (call : Cl) (n : Nat) (J : Jn (AEnd × H)) : Prop := JFix Tryz.prog cur_Reader_Count.A call Tryz.f148 cur_Reader_Count.an cur_Reader_Count.c n J
def cur_Reader_Count.f (J : Jn (AEnd × H)) (x0 x1 : AV) (h : H) : Option (AEnd × H) := J [] [] ⟨[(0, x0), (1, x1)], [], [], h⟩
theorem cur_Reader_Count.f_eq {call : Cl} {n : Nat} {J : Jn (AEnd × H)} (hJ : cur_Reader_Count.F call n J) (x0 x1 : AV) (h : H) : cur_Reader_Count.f J x0 x1 h =
  (bx h (AV.copy x1)).bind fun p1 =>
  (call n_cur_ask_int [AV.canon x0, AV.canon (.func (.func n_cur_Reader_Count_c1) [] [AV.copy p1.1])] p1.2).bind fun p2 => retOr p2.1 (fun r3p => some (AEnd.pan r3p, p2.2)) fun r3 =>
  some (AEnd.ret r3, p2.2) := (hJ _ _ _ (by kernel_rfl)).trans (by kernel_rfl)
/-! ### warrantor/rec.must: function 149 -/
noncomputable def rec_must.A : FAnn := { nv := 2, mv := [(0, 0)], ld := [], lst := [], obj := [], q := [], raw := [] }
noncomputable def rec_must.an : Ann := .nil
noncomputable abbrev rec_must.c : Code := Tryz.f149.body.getD .skip
noncomputable def rec_must.J (call : Cl) (n : Nat) : Jn (AEnd × H) := realJ Tryz.prog rec_must.A call Tryz.f149 rec_must.an rec_must.c n
abbrev rec_must.F (call : Cl) (n : Nat) (J : Jn (AEnd × H)) : Prop := JFix Tryz.prog rec_must.A call Tryz.f149 rec_must.an rec_must.c n J
def rec_must.f (J : Jn (AEnd × H)) (x0 : AV) (h : H) : Option (AEnd × H) := J [] [] ⟨[(0, x0)], [], [], h⟩
theorem rec_must.f_eq {call : Cl} {n : Nat} {J : Jn (AEnd × H)} (hJ : rec_must.F call n J) (x0 : AV) (h : H) : rec_must.f J x0 h =
  (unOp .not x0).bind fun v1 =>
  condV v1 (
    (mkAgg [] []).bind fun v2 =>
    panOr (.iface t_rec_broken (AV.copy v2)) fun w => some (AEnd.pan w, h)) (
    some (AEnd.ret (.tuple []), h)) := (hJ _ _ _ (by kernel_rfl)).trans (by kernel_rfl)
/-! ### (*warrantor/cur.Reader).End: function 150 -/
noncomputable def cur_Reader_End.A : FAnn := { nv := 2, mv := [(1, 0)], ld := [], lst := [], obj := [], q := [], raw := [] }
noncomputable def cur_Reader_End.an : Ann := .nil
noncomputable abbrev cur_Reader_End.c : Code := Tryz.f150.body.getD .skip
noncomputable def cur_Reader_End.J (call : Cl) (n : Nat) : Jn (AEnd × H) := realJ Tryz.prog cur_Reader_End.A call Tryz.f150 cur_Reader_End.an cur_Reader_End.c n
abbrev cur_Reader_End.F (call : Cl) (n : Nat) (J : Jn (AEnd × H)) : Prop := JFix Tryz.prog cur_Reader_End.A call Tryz.f150 cur_Reader_End.an cur_Reader_End.c n J
def cur_Reader_End.f (J : Jn (AEnd × H)) (x0 : AV) (h : H) : Option (AEnd × H) := J [] [] ⟨[(0, x0)], [], [], h⟩
theorem cur_Reader_End.f_eq {call : Cl} {n : Nat} {J : Jn (AEnd × H)} (hJ : cur_Reader_End.F call n J) (x0 : AV) (h : H) : cur_Reader_End.f J x0 h =
  (call n_cur_Reader_Left [AV.canon x0] h).bind fun p1 => retOr p1.1 (fun r2p => some (AEnd.pan r2p, p1.2)) fun r2 =>
  (bin .gtr r2 (.int .i64 0)).bind fun v3 =>
  condV v3 (
    (call n_cur_Reader_Fail [AV.canon x0, AV.canon (.int .i64 3)] p1.2).bind fun p4 => retOr p4.1 (fun r5p => some (AEnd.pan r5p, p4.2)) fun r5 =>
    some (AEnd.ret (.tuple []), p4.2)) (
    some (AEnd.ret (.tuple []), p1.2)) := (hJ _ _ _ (by kernel_rfl)).trans (by kernel_rfl)
/-! ### slices.Equal[[]byte,byte]: function 151 -/
noncomputable def slices_Equal_byte_byte.A : FAnn := { nv := 6, mv := [(6, 5)], ld := [], lst := [], obj := [], q := [], raw := [] }
noncomputable def slices_Equal_byte_byte.an : Ann := .mk none .nil (.mk none .nil (.mk none (.mk none .nil (.mk none (.mk none (.mk (some [(0, 0), (1, 0), (12, 0), (13, 0)]) .nil .nil) .nil) .nil)) .nil))
noncomputable abbrev slices_Equal_byte_byte.c : Code := Tryz.f151.body.getD .skip
noncomputable def slices_Equal_byte_byte.J (call : Cl) (n : Nat) : Jn (AEnd × H) := realJ Tryz.prog slices_Equal_byte_byte.A call Tryz.f151 slices_Equal_byte_byte.an slices_Equal_byte_byte.c n
abbrev slices_Equal_byte_byte.F (call : Cl) (n : Nat) (J : Jn (AEnd × H)) : Prop := JFix Tryz.prog slices_Equal_byte_byte.A call Tryz.f151 slices_Equal_byte_byte.an slices_Equal_byte_byte.c n J
def slices_Equal_byte_byte.f (J : Jn (AEnd × H)) (x0 x1 : AV) (h : H) : Option (AEnd × H) := J [] [] ⟨[(0, x0), (1, x1)], [], [], h⟩
def slices_Equal_byte_byte.l0 (J : Jn (AEnd × H)) (m0 : Nat) (x0 x1 x12 x13 : AV) (h : H) : Option (AEnd × H) := J [1, 1, 0, 1, 0] [m0] ⟨[(0, x0), (1, x1), (12, x12), (13, x13)], [(0, 0), (1, 0), (12, 0), (13, 0)], [], h⟩
theorem slices_Equal_byte_byte.f_eq {call : Cl} {n : Nat} {J : Jn (AEnd × H)} (hJ : slices_Equal_byte_byte.F call n J) (x0 x1 : AV) (h : H) : slices_Equal_byte_byte.f J x0 x1 h =
  (lnSl x0).bind fun v1 =>
  (lnSl x1).bind fun v2 =>
  (bin .neq v1 v2).bind fun v3 =>
  condV v3 (
    some (AEnd.ret (.bool false), h)) (
    (lnSl x0).bind fun v4 =>
    slices_Equal_byte_byte.l0 J n x0 x1 v4 (.int .i64 0) h) := (hJ _ _ _ (by kernel_rfl)).trans (by kernel_rfl)
theorem slices_Equal_byte_byte.l0_eq {call : Cl} {n : Nat} {J : Jn (AEnd × H)} (hJ : slices_Equal_byte_byte.F call n J) (m0 : Nat) (x0 x1 x12 x13 : AV) (h : H) : slices_Equal_byte_byte.l0 J (m0 + 1) x0 x1 x12 x13 h =
  (bin .lss x13 x12).bind fun v5 =>
  condV v5 (
    (ixSlice 1 x0 x13).bind fun v6 =>
    (ldCell h v6).bind fun v7 =>
    (ixSlice 1 x1 x13).bind fun v8 =>
    (ldCell h v8).bind fun v9 =>
    (bin .neq v7 v9).bind fun v10 =>
    condV v10 (
      some (AEnd.ret (.bool false), h)) (
      (bin .add x13 (.int .i64 1)).bind fun v11 =>
      slices_Equal_byte_byte.l0 J m0 x0 x1 x12 v11 h)) (
    some (AEnd.ret (.bool true), h)) := (hJ _ _ _ (by kernel_rfl)).trans (by kernel_rfl)
/-! ### (*warrantor/warrantorref02.Reader).take: function 152 -/
noncomputable def warrantorref02_Reader_take.A : FAnn := { nv := 4, mv := [(4, 0), (7, 8), (7, 10)], ld := [], lst := [], obj := [], q := [], raw := [] }
noncomputable def warrantorref02_Reader_take.an : Ann := .nil
noncomputable abbrev warrantorref02_Reader_take.c : Code := Tryz.f152.body.getD .skip
noncomputable def warrantorref02_Reader_take.J (call : Cl) (n : Nat) : Jn (AEnd × H) := realJ Tryz.prog warrantorref02_Reader_take.A call Tryz.f152 warrantorref02_Reader_take.an warrantorref02_Reader_take.c n
abbrev warrantorref02_Reader_take.F (call : Cl) (n : Nat) (J : Jn (AEnd × H)) : Prop := JFix Tryz.prog warrantorref02_Reader_take.A call Tryz.f152 warrantorref02_Reader_take.an warrantorref02_Reader_take.c n J
def warrantorref02_Reader_take.f (J : Jn (AEnd × H)) (x0 x1 : AV) (h : H) : Option (AEnd × H) := J [] [] ⟨[(0, x0), (1, x1)], [], [], h⟩
theorem warrantorref02_Reader_take.f_eq {call : Cl} {n : Nat} {J : Jn (AEnd × H)} (hJ : warrantorref02_Reader_take.F call n J) (x0 x1 : AV) (h : H) : warrantorref02_Reader_take.f J x0 x1 h =
  (nilOk x0).bind fun v1 =>
  (fAddr 2 v1).bind fun v2 =>
  (ldCell h v2).bind fun v3 =>
  (bin .neq v3 (.int .i64 0)).bind fun v4 =>
  condV v4 (
    some (AEnd.ret (.list [] .cap), h)) (
    (nilOk x0).bind fun v5 =>
    (fAddr 0 v5).bind fun v6 =>
    (ldCell h v6).bind fun v7 =>
    (lnSl v7).bind fun v8 =>
    (nilOk x0).bind fun v9 =>
    (fAddr 1 v9).bind fun v10 =>
    (ldCell h v10).bind fun v11 =>
    (bin .sub v8 v11).bind fun v12 =>
    (bin .gtr x1 v12).bind fun v13 =>
    condV v13 (
      (call n_warrantorref02_Reader_Fail [AV.canon x0, AV.canon (.int .i64 10)] h).bind fun p14 => retOr p14.1 (fun r15p => some (AEnd.pan r15p, p14.2)) fun r15 =>
      some (AEnd.ret (.list [] .cap), p14.2)) (
      (nilOk x0).bind fun v16 =>
      (fAddr 1 v16).bind fun v17 =>
      (ldCell h v17).bind fun v18 =>
      (bin .add v18 x1).bind fun v19 =>
      (nilOk x0).bind fun v20 =>
      (fAddr 1 v20).bind fun v21 =>
      (stN 1 h v21 (AV.copy v19)).bind fun p22 =>
      (nilOk x0).bind fun v23 =>
      (fAddr 0 v23).bind fun v24 =>
      (ldCell p22.2 v24).bind fun v25 =>
      (nilOk x0).bind fun v26 =>
      (fAddr 1 v26).bind fun v27 =>
      (ldCell p22.2 v27).bind fun v28 =>
      (bin .sub v28 x1).bind fun v29 =>
      (nilOk x0).bind fun v30 =>
      (fAddr 1 v30).bind fun v31 =>
      (ldCell p22.2 v31).bind fun v32 =>
      (slSlice 1 v25 (some v29) (some v32) none).bind fun v33 =>
      some (AEnd.ret (AV.copy v33), p22.2))) := (hJ _ _ _ (by kernel_rfl)).trans (by kernel_rfl)
end Go.Proofs.YtdlnkfghgbddhaaGreat
