import Derived.Test.YtdlnkfghgbddhaaGreatPJG1
import Derived.Test.YtdlnkfghgbddhaaGreatPJG2
import Derived.Test.YtdlnkfghgbddhaaGreatVa5
set_option linter.all false
open Go Go.Ve Go.Proofs
namespace Go.Proofs.YtdlnkfghgbddhaaGreat
set_option maxRecDepth 100000
noncomputable def tab : List (Nat × FAnn × Ann) := [(3, law27_RecChecks.A, law27_RecChecks.an), (4, law27_RecPuts.A, law27_RecPuts.an), (5, law27_RecGets.A, law27_RecGets.an), (6, law27_RecBodies.A, law27_RecBodies.an), (7, law27_RecCuts.A, law27_RecCuts.an), (12, ref27_LargeEntry.A, ref27_LargeEntry.an), (13, ref27_Large.A, ref27_Large.an), (14, law27_lives.A, law27_lives.an), (15, rec_Check.A, rec_Check.an), (16, rec_Right.A, rec_Right.an), (17, ref27_Right.A, ref27_Right.an), (18, ref27_Check.A, ref27_Check.an), (19, rec_Same.A, rec_Same.an), (20, ref27_Same.A, ref27_Same.an), (21, rec_Put.A, rec_Put.an), (22, ref27_Batch.A, ref27_Batch.an), (23, rec_Get.A, rec_Get.an), (24, ref27_Put.A, ref27_Put.an), (25, ref27_Get.A, ref27_Get.an), (26, ref27_Frame.A, ref27_Frame.an), (27, ref27_Changes.A, ref27_Changes.an), (28, ref27_Body.A, ref27_Body.an), (29, ref03_Turn.A, ref03_Turn.an), (45, ref17_Large.A, ref17_Large.an), (46, rec_kinds.A, rec_kinds.an), (47, alarm_Check.A, alarm_Check.an), (48, rec_note.A, rec_note.an), (49, ref17_Check.A, ref17_Check.an), (50, ref21_Note.A, ref21_Note.an), (51, ref27_Uses.A, ref27_Uses.an), (52, slices_Equal_api_Change_api_Change.A, slices_Equal_api_Change_api_Change.an), (53, rec_batch.A, rec_batch.an), (54, cur_New.A, cur_New.an), (55, cur_Pen_Text.A, cur_Pen_Text.an), (56, rec_body.A, rec_body.an), (57, cur_Pen_Word.A, cur_Pen_Word.an), (58, crc_Sum.A, crc_Sum.an), (59, cur_Pen_Bytes.A, cur_Pen_Bytes.an), (60, cur_From.A, cur_From.an), (61, cur_Reader_Text.A, cur_Reader_Text.an), (62, cur_Reader_At.A, cur_Reader_At.an), (63, cur_Reader_Word.A, cur_Reader_Word.an), (64, cur_Reader_Err.A, cur_Reader_Err.an), (65, crc_Whole.A, crc_Whole.an), (66, rec_read.A, rec_read.an), (67, ref27_Open.A, ref27_Open.an), (68, ref02_Text.A, ref02_Text.an), (69, ref02_Word.A, ref02_Word.an), (70, ref03_Sum.A, ref03_Sum.an), (71, ref02_Reader_Count.A, ref02_Reader_Count.an), (72, ref27_change.A, ref27_change.an), (73, ref02_Reader_End.A, ref02_Reader_End.an), (74, ref02_Num.A, ref02_Num.an), (75, ref27_alarm.A, ref27_alarm.an), (77, cur_Pen_U.A, cur_Pen_U.an), (78, slices_Equal_api_Entry_api_Entry.A, slices_Equal_api_Entry_api_Entry.an), (79, slices_EqualFunc_api_Change_api_Change_api_Change_api_Change.A, slices_EqualFunc_api_Change_api_Change_api_Change_api_Change.an), (87, rec_kinds_c1.A, rec_kinds_c1.an), (88, rec_pen_alarm.A, rec_pen_alarm.an), (89, rec_taker_alarm.A, rec_taker_alarm.an), (90, rec_kinds_c2.A, rec_kinds_c2.an), (91, rec_pen_note.A, rec_pen_note.an), (92, rec_taker_note.A, rec_taker_note.an), (93, rec_kinds_c3.A, rec_kinds_c3.an), (94, rec_pen_stand.A, rec_pen_stand.an), (95, rec_taker_stand.A, rec_taker_stand.an), (96, alarm_expr.A, alarm_expr.an), (97, prog_Check.A, prog_Check.an), (98, result_Base.A, result_Base.an), (99, ref11_Name.A, ref11_Name.an), (100, ref11_File.A, ref11_File.an), (101, ref17_Expr.A, ref17_Expr.an), (102, slices_ContainsFunc_api_Change_api_Change.A, slices_ContainsFunc_api_Change_api_Change.an), (103, rec_batch_c1.A, rec_batch_c1.an), (104, cur_Pen_put.A, cur_Pen_put.an), (105, crc_More.A, crc_More.an), (107, cur_ask_string.A, cur_ask_string.an), (108, cur_Reader_Text_c1.A, cur_Reader_Text_c1.an), (109, cur_Reader_take.A, cur_Reader_take.an), (110, cur_Reader_upto.A, cur_Reader_upto.an), (111, cur_ask_uint32.A, cur_ask_uint32.an), (112, cur_Reader_word.A, cur_Reader_word.an), (114, rec_changes.A, rec_changes.an), (115, ref02_Reader_Text.A, ref02_Reader_Text.an), (116, ref02_Reader_Word.A, ref02_Reader_Word.an), (117, ref01_Put.A, ref01_Put.an), (118, ref03_More.A, ref03_More.an), (119, ref02_Reader_U.A, ref02_Reader_U.an), (120, ref02_Reader_Fail.A, ref02_Reader_Fail.an), (121, ref27_finger.A, ref27_finger.an), (122, leb_Put.A, leb_Put.an), (126, rec_taker_num.A, rec_taker_num.an), (127, rec_taker_text.A, rec_taker_text.an), (128, alarm_expr_c1.A, alarm_expr_c1.an), (129, strings_ContainsFunc.A, strings_ContainsFunc.an), (130, prog_Check_c1.A, prog_Check_c1.an), (131, prog_some.A, prog_some.an), (132, prog_Right.A, prog_Right.an), (133, prog_name.A, prog_name.an), (134, prog_vars.A, prog_vars.an), (135, prog_one.A, prog_one.an), (136, slices_ContainsFunc_api_Spot_api_Spot.A, slices_ContainsFunc_api_Spot_api_Spot.an), (137, prog_Check_c2.A, prog_Check_c2.an), (138, prog_spot.A, prog_spot.an), (139, slices_ContainsFunc_api_Edge_api_Edge.A, slices_ContainsFunc_api_Edge_api_Edge.an), (140, result_note.A, result_note.an), (141, ref11_more.A, ref11_more.an), (142, ref11_letter.A, ref11_letter.an), (143, slices_IndexFunc_api_Change_api_Change.A, slices_IndexFunc_api_Change_api_Change.an), (144, crc_bits.A, crc_bits.an), (146, cur_Reader_number.A, cur_Reader_number.an), (148, cur_Reader_Count.A, cur_Reader_Count.an), (149, rec_must.A, rec_must.an), (150, cur_Reader_End.A, cur_Reader_End.an), (151, slices_Equal_byte_byte.A, slices_Equal_byte_byte.an), (152, ref02_Reader_take.A, ref02_Reader_take.an), (153, ref03_take.A, ref03_take.an), (154, ref01_Get.A, ref01_Get.an), (155, strings_IndexFunc.A, strings_IndexFunc.an), (156, prog_kinds.A, prog_kinds.an), (157, prog_named.A, prog_named.an), (158, prog_plain.A, prog_plain.an), (159, slices_IndexFunc_api_Spot_api_Spot.A, slices_IndexFunc_api_Spot_api_Spot.an), (160, prog_path.A, prog_path.an), (161, slices_IndexFunc_api_Edge_api_Edge.A, slices_IndexFunc_api_Edge_api_Edge.an), (162, result_note_c1.A, result_note_c1.an), (163, leb_Get.A, leb_Get.an), (164, cur_ask_int.A, cur_ask_int.an), (165, cur_Reader_Count_c1.A, cur_Reader_Count_c1.an), (166, cur_Reader_Left.A, cur_Reader_Left.an), (167, cur_Reader_Fail.A, cur_Reader_Fail.an), (168, ref03_bit.A, ref03_bit.an), (169, strings_indexFunc.A, strings_indexFunc.an), (170, prog_kinds_c1.A, prog_kinds_c1.an), (171, val_Is.A, val_Is.an), (172, prog_kinds_c2.A, prog_kinds_c2.an), (173, prog_kinds_c3.A, prog_kinds_c3.an), (174, prog_kinds_c4.A, prog_kinds_c4.an), (175, prog_letter.A, prog_letter.an), (177, val_Clip.A, val_Clip.an)]
def here : List Nat := [46, 54, 55, 57, 59, 60, 61, 62, 63, 64, 71, 72, 73, 77, 88, 89, 90, 91, 92, 93, 94, 95, 104, 107, 108, 109, 110, 111, 112, 115, 116, 119, 120, 121, 126, 127, 130, 139, 146, 148, 150, 152, 161, 164, 165, 166, 167]
noncomputable def exts : List (Nat × (List AV → H → Option (AEnd × H))) := [(106, cloneE 1 1)]
noncomputable def pol : Pol := tabPol tab here exts
noncomputable abbrev D : Cl := den Tryz.prog pol
noncomputable abbrev law27_RecChecks.JD (n : Nat) : Jn (AEnd × H) := law27_RecChecks.J D n
theorem law27_RecChecks.fx (n : Nat) : law27_RecChecks.F D n (law27_RecChecks.JD n) := realJ_fix
theorem law27_RecChecks.den (n : Nat) {x0 x1 x2 : AV} {h h' : H} {v : AV} (hp : pureL [x0, x1, x2] = true) (he : law27_RecChecks.f (law27_RecChecks.JD n) x0 x1 x2 [] = some (.ret v, h')) (hw : v.pure = true) (hro : retOk Tryz.f3 (.ret v) = true) : D n_warrantorlaw27_RecChecks [x0, x1, x2] h = some (.ret v, h) :=
  den_val0 (by kernel_rfl) Tryz.func3 (c := law27_RecChecks.c) (by kernel_rfl) (by kernel_rfl) (by kernel_rfl) n hp (by rw [show (pol.ann 3).1 = law27_RecChecks.A by kernel_rfl, show (pol.ann 3).2 = law27_RecChecks.an by kernel_rfl, body_real _ _ (by kernel_rfl)]; exact he) hw hro
noncomputable abbrev law27_RecPuts.JD (n : Nat) : Jn (AEnd × H) := law27_RecPuts.J D n
theorem law27_RecPuts.fx (n : Nat) : law27_RecPuts.F D n (law27_RecPuts.JD n) := realJ_fix
theorem law27_RecPuts.den (n : Nat) {x0 x1 : AV} {h h' : H} {v : AV} (hp : pureL [x0, x1] = true) (he : law27_RecPuts.f (law27_RecPuts.JD n) x0 x1 [] = some (.ret v, h')) (hw : v.pure = true) (hro : retOk Tryz.f4 (.ret v) = true) : D n_warrantorlaw27_RecPuts [x0, x1] h = some (.ret v, h) :=
  den_val0 (by kernel_rfl) Tryz.func4 (c := law27_RecPuts.c) (by kernel_rfl) (by kernel_rfl) (by kernel_rfl) n hp (by rw [show (pol.ann 4).1 = law27_RecPuts.A by kernel_rfl, show (pol.ann 4).2 = law27_RecPuts.an by kernel_rfl, body_real _ _ (by kernel_rfl)]; exact he) hw hro
noncomputable abbrev law27_RecGets.JD (n : Nat) : Jn (AEnd × H) := law27_RecGets.J D n
theorem law27_RecGets.fx (n : Nat) : law27_RecGets.F D n (law27_RecGets.JD n) := realJ_fix
theorem law27_RecGets.den (n : Nat) {x0 : AV} {h h' : H} {v : AV} (hp : pureL [x0] = true) (he : law27_RecGets.f (law27_RecGets.JD n) x0 [] = some (.ret v, h')) (hw : v.pure = true) (hro : retOk Tryz.f5 (.ret v) = true) : D n_warrantorlaw27_RecGets [x0] h = some (.ret v, h) :=
  den_val0 (by kernel_rfl) Tryz.func5 (c := law27_RecGets.c) (by kernel_rfl) (by kernel_rfl) (by kernel_rfl) n hp (by rw [show (pol.ann 5).1 = law27_RecGets.A by kernel_rfl, show (pol.ann 5).2 = law27_RecGets.an by kernel_rfl, body_real _ _ (by kernel_rfl)]; exact he) hw hro
noncomputable abbrev law27_RecBodies.JD (n : Nat) : Jn (AEnd × H) := law27_RecBodies.J D n
theorem law27_RecBodies.fx (n : Nat) : law27_RecBodies.F D n (law27_RecBodies.JD n) := realJ_fix
theorem law27_RecBodies.den (n : Nat) {x0 : AV} {h h' : H} {v : AV} (hp : pureL [x0] = true) (he : law27_RecBodies.f (law27_RecBodies.JD n) x0 [] = some (.ret v, h')) (hw : v.pure = true) (hro : retOk Tryz.f6 (.ret v) = true) : D n_warrantorlaw27_RecBodies [x0] h = some (.ret v, h) :=
  den_val0 (by kernel_rfl) Tryz.func6 (c := law27_RecBodies.c) (by kernel_rfl) (by kernel_rfl) (by kernel_rfl) n hp (by rw [show (pol.ann 6).1 = law27_RecBodies.A by kernel_rfl, show (pol.ann 6).2 = law27_RecBodies.an by kernel_rfl, body_real _ _ (by kernel_rfl)]; exact he) hw hro
noncomputable abbrev law27_RecCuts.JD (n : Nat) : Jn (AEnd × H) := law27_RecCuts.J D n
theorem law27_RecCuts.fx (n : Nat) : law27_RecCuts.F D n (law27_RecCuts.JD n) := realJ_fix
theorem law27_RecCuts.den (n : Nat) {x0 x1 x2 x3 : AV} {h h' : H} {v : AV} (hp : pureL [x0, x1, x2, x3] = true) (he : law27_RecCuts.f (law27_RecCuts.JD n) x0 x1 x2 x3 [] = some (.ret v, h')) (hw : v.pure = true) (hro : retOk Tryz.f7 (.ret v) = true) : D n_warrantorlaw27_RecCuts [x0, x1, x2, x3] h = some (.ret v, h) :=
  den_val0 (by kernel_rfl) Tryz.func7 (c := law27_RecCuts.c) (by kernel_rfl) (by kernel_rfl) (by kernel_rfl) n hp (by rw [show (pol.ann 7).1 = law27_RecCuts.A by kernel_rfl, show (pol.ann 7).2 = law27_RecCuts.an by kernel_rfl, body_real _ _ (by kernel_rfl)]; exact he) hw hro
noncomputable abbrev ref27_LargeEntry.JD (n : Nat) : Jn (AEnd × H) := ref27_LargeEntry.J D n
theorem ref27_LargeEntry.fx (n : Nat) : ref27_LargeEntry.F D n (ref27_LargeEntry.JD n) := realJ_fix
theorem ref27_LargeEntry.den (n : Nat) {x0 : AV} {h h' : H} {v : AV} (hp : pureL [x0] = true) (he : ref27_LargeEntry.f (ref27_LargeEntry.JD n) x0 [] = some (.ret v, h')) (hw : v.pure = true) (hro : retOk Tryz.f12 (.ret v) = true) : D n_warrantorref27_LargeEntry [x0] h = some (.ret v, h) :=
  den_val0 (by kernel_rfl) Tryz.func12 (c := ref27_LargeEntry.c) (by kernel_rfl) (by kernel_rfl) (by kernel_rfl) n hp (by rw [show (pol.ann 12).1 = ref27_LargeEntry.A by kernel_rfl, show (pol.ann 12).2 = ref27_LargeEntry.an by kernel_rfl, body_real _ _ (by kernel_rfl)]; exact he) hw hro
noncomputable abbrev ref27_Large.JD (n : Nat) : Jn (AEnd × H) := ref27_Large.J D n
theorem ref27_Large.fx (n : Nat) : ref27_Large.F D n (ref27_Large.JD n) := realJ_fix
theorem ref27_Large.den (n : Nat) {x0 x1 : AV} {h h' : H} {v : AV} (hp : pureL [x0, x1] = true) (he : ref27_Large.f (ref27_Large.JD n) x0 x1 [] = some (.ret v, h')) (hw : v.pure = true) (hro : retOk Tryz.f13 (.ret v) = true) : D n_warrantorref27_Large [x0, x1] h = some (.ret v, h) :=
  den_val0 (by kernel_rfl) Tryz.func13 (c := ref27_Large.c) (by kernel_rfl) (by kernel_rfl) (by kernel_rfl) n hp (by rw [show (pol.ann 13).1 = ref27_Large.A by kernel_rfl, show (pol.ann 13).2 = ref27_Large.an by kernel_rfl, body_real _ _ (by kernel_rfl)]; exact he) hw hro
noncomputable abbrev law27_lives.JD (n : Nat) : Jn (AEnd × H) := law27_lives.J D n
theorem law27_lives.fx (n : Nat) : law27_lives.F D n (law27_lives.JD n) := realJ_fix
theorem law27_lives.den (n : Nat) {h h' : H} {v : AV} (hp : pureL [] = true) (he : law27_lives.f (law27_lives.JD n)  [] = some (.ret v, h')) (hw : v.pure = true) (hro : retOk Tryz.f14 (.ret v) = true) : D n_warrantorlaw27_lives [] h = some (.ret v, h) :=
  den_val0 (by kernel_rfl) Tryz.func14 (c := law27_lives.c) (by kernel_rfl) (by kernel_rfl) (by kernel_rfl) n hp (by rw [show (pol.ann 14).1 = law27_lives.A by kernel_rfl, show (pol.ann 14).2 = law27_lives.an by kernel_rfl, body_real _ _ (by kernel_rfl)]; exact he) hw hro
noncomputable abbrev rec_Check.JD (n : Nat) : Jn (AEnd × H) := rec_Check.J D n
theorem rec_Check.fx (n : Nat) : rec_Check.F D n (rec_Check.JD n) := realJ_fix
theorem rec_Check.den (n : Nat) {x0 : AV} {h h' : H} {v : AV} (hp : pureL [x0] = true) (he : rec_Check.f (rec_Check.JD n) x0 [] = some (.ret v, h')) (hw : v.pure = true) (hro : retOk Tryz.f15 (.ret v) = true) : D n_rec_Check [x0] h = some (.ret v, h) :=
  den_val0 (by kernel_rfl) Tryz.func15 (c := rec_Check.c) (by kernel_rfl) (by kernel_rfl) (by kernel_rfl) n hp (by rw [show (pol.ann 15).1 = rec_Check.A by kernel_rfl, show (pol.ann 15).2 = rec_Check.an by kernel_rfl, body_real _ _ (by kernel_rfl)]; exact he) hw hro
noncomputable abbrev rec_Right.JD (n : Nat) : Jn (AEnd × H) := rec_Right.J D n
theorem rec_Right.fx (n : Nat) : rec_Right.F D n (rec_Right.JD n) := realJ_fix
theorem rec_Right.den (n : Nat) {x0 : AV} {h h' : H} {v : AV} (hp : pureL [x0] = true) (he : rec_Right.f (rec_Right.JD n) x0 [] = some (.ret v, h')) (hw : v.pure = true) (hro : retOk Tryz.f16 (.ret v) = true) : D n_rec_Right [x0] h = some (.ret v, h) :=
  den_val0 (by kernel_rfl) Tryz.func16 (c := rec_Right.c) (by kernel_rfl) (by kernel_rfl) (by kernel_rfl) n hp (by rw [show (pol.ann 16).1 = rec_Right.A by kernel_rfl, show (pol.ann 16).2 = rec_Right.an by kernel_rfl, body_real _ _ (by kernel_rfl)]; exact he) hw hro
noncomputable abbrev ref27_Right.JD (n : Nat) : Jn (AEnd × H) := ref27_Right.J D n
theorem ref27_Right.fx (n : Nat) : ref27_Right.F D n (ref27_Right.JD n) := realJ_fix
theorem ref27_Right.den (n : Nat) {x0 : AV} {h h' : H} {v : AV} (hp : pureL [x0] = true) (he : ref27_Right.f (ref27_Right.JD n) x0 [] = some (.ret v, h')) (hw : v.pure = true) (hro : retOk Tryz.f17 (.ret v) = true) : D n_warrantorref27_Right [x0] h = some (.ret v, h) :=
  den_val0 (by kernel_rfl) Tryz.func17 (c := ref27_Right.c) (by kernel_rfl) (by kernel_rfl) (by kernel_rfl) n hp (by rw [show (pol.ann 17).1 = ref27_Right.A by kernel_rfl, show (pol.ann 17).2 = ref27_Right.an by kernel_rfl, body_real _ _ (by kernel_rfl)]; exact he) hw hro
noncomputable abbrev ref27_Check.JD (n : Nat) : Jn (AEnd × H) := ref27_Check.J D n
theorem ref27_Check.fx (n : Nat) : ref27_Check.F D n (ref27_Check.JD n) := realJ_fix
theorem ref27_Check.den (n : Nat) {x0 : AV} {h h' : H} {v : AV} (hp : pureL [x0] = true) (he : ref27_Check.f (ref27_Check.JD n) x0 [] = some (.ret v, h')) (hw : v.pure = true) (hro : retOk Tryz.f18 (.ret v) = true) : D n_warrantorref27_Check [x0] h = some (.ret v, h) :=
  den_val0 (by kernel_rfl) Tryz.func18 (c := ref27_Check.c) (by kernel_rfl) (by kernel_rfl) (by kernel_rfl) n hp (by rw [show (pol.ann 18).1 = ref27_Check.A by kernel_rfl, show (pol.ann 18).2 = ref27_Check.an by kernel_rfl, body_real _ _ (by kernel_rfl)]; exact he) hw hro
noncomputable abbrev rec_Same.JD (n : Nat) : Jn (AEnd × H) := rec_Same.J D n
theorem rec_Same.fx (n : Nat) : rec_Same.F D n (rec_Same.JD n) := realJ_fix
theorem rec_Same.den (n : Nat) {x0 x1 : AV} {h h' : H} {v : AV} (hp : pureL [x0, x1] = true) (he : rec_Same.f (rec_Same.JD n) x0 x1 [] = some (.ret v, h')) (hw : v.pure = true) (hro : retOk Tryz.f19 (.ret v) = true) : D n_rec_Same [x0, x1] h = some (.ret v, h) :=
  den_val0 (by kernel_rfl) Tryz.func19 (c := rec_Same.c) (by kernel_rfl) (by kernel_rfl) (by kernel_rfl) n hp (by rw [show (pol.ann 19).1 = rec_Same.A by kernel_rfl, show (pol.ann 19).2 = rec_Same.an by kernel_rfl, body_real _ _ (by kernel_rfl)]; exact he) hw hro
noncomputable abbrev ref27_Same.JD (n : Nat) : Jn (AEnd × H) := ref27_Same.J D n
theorem ref27_Same.fx (n : Nat) : ref27_Same.F D n (ref27_Same.JD n) := realJ_fix
theorem ref27_Same.den (n : Nat) {x0 x1 : AV} {h h' : H} {v : AV} (hp : pureL [x0, x1] = true) (he : ref27_Same.f (ref27_Same.JD n) x0 x1 [] = some (.ret v, h')) (hw : v.pure = true) (hro : retOk Tryz.f20 (.ret v) = true) : D n_warrantorref27_Same [x0, x1] h = some (.ret v, h) :=
  den_val0 (by kernel_rfl) Tryz.func20 (c := ref27_Same.c) (by kernel_rfl) (by kernel_rfl) (by kernel_rfl) n hp (by rw [show (pol.ann 20).1 = ref27_Same.A by kernel_rfl, show (pol.ann 20).2 = ref27_Same.an by kernel_rfl, body_real _ _ (by kernel_rfl)]; exact he) hw hro
noncomputable abbrev rec_Put.JD (n : Nat) : Jn (AEnd × H) := rec_Put.J D n
theorem rec_Put.fx (n : Nat) : rec_Put.F D n (rec_Put.JD n) := realJ_fix
theorem rec_Put.den (n : Nat) {x0 : AV} {h h' : H} {v : AV} (hp : pureL [x0] = true) (he : rec_Put.f (rec_Put.JD n) x0 [] = some (.ret v, h')) (hw : v.pure = true) (hro : retOk Tryz.f21 (.ret v) = true) : D n_rec_Put [x0] h = some (.ret v, h) :=
  den_val0 (by kernel_rfl) Tryz.func21 (c := rec_Put.c) (by kernel_rfl) (by kernel_rfl) (by kernel_rfl) n hp (by rw [show (pol.ann 21).1 = rec_Put.A by kernel_rfl, show (pol.ann 21).2 = rec_Put.an by kernel_rfl, body_real _ _ (by kernel_rfl)]; exact he) hw hro
noncomputable abbrev ref27_Batch.JD (n : Nat) : Jn (AEnd × H) := ref27_Batch.J D n
theorem ref27_Batch.fx (n : Nat) : ref27_Batch.F D n (ref27_Batch.JD n) := realJ_fix
theorem ref27_Batch.den (n : Nat) {x0 : AV} {h h' : H} {v : AV} (hp : pureL [x0] = true) (he : ref27_Batch.f (ref27_Batch.JD n) x0 [] = some (.ret v, h')) (hw : v.pure = true) (hro : retOk Tryz.f22 (.ret v) = true) : D n_warrantorref27_Batch [x0] h = some (.ret v, h) :=
  den_val0 (by kernel_rfl) Tryz.func22 (c := ref27_Batch.c) (by kernel_rfl) (by kernel_rfl) (by kernel_rfl) n hp (by rw [show (pol.ann 22).1 = ref27_Batch.A by kernel_rfl, show (pol.ann 22).2 = ref27_Batch.an by kernel_rfl, body_real _ _ (by kernel_rfl)]; exact he) hw hro
noncomputable abbrev rec_Get.JD (n : Nat) : Jn (AEnd × H) := rec_Get.J D n
theorem rec_Get.fx (n : Nat) : rec_Get.F D n (rec_Get.JD n) := realJ_fix
theorem rec_Get.den (n : Nat) {x0 : AV} {h h' : H} {v : AV} (hp : pureL [x0] = true) (he : rec_Get.f (rec_Get.JD n) x0 [] = some (.ret v, h')) (hw : v.pure = true) (hro : retOk Tryz.f23 (.ret v) = true) : D n_rec_Get [x0] h = some (.ret v, h) :=
  den_val0 (by kernel_rfl) Tryz.func23 (c := rec_Get.c) (by kernel_rfl) (by kernel_rfl) (by kernel_rfl) n hp (by rw [show (pol.ann 23).1 = rec_Get.A by kernel_rfl, show (pol.ann 23).2 = rec_Get.an by kernel_rfl, body_real _ _ (by kernel_rfl)]; exact he) hw hro
noncomputable abbrev ref27_Put.JD (n : Nat) : Jn (AEnd × H) := ref27_Put.J D n
theorem ref27_Put.fx (n : Nat) : ref27_Put.F D n (ref27_Put.JD n) := realJ_fix
theorem ref27_Put.den (n : Nat) {x0 : AV} {h h' : H} {v : AV} (hp : pureL [x0] = true) (he : ref27_Put.f (ref27_Put.JD n) x0 [] = some (.ret v, h')) (hw : v.pure = true) (hro : retOk Tryz.f24 (.ret v) = true) : D n_warrantorref27_Put [x0] h = some (.ret v, h) :=
  den_val0 (by kernel_rfl) Tryz.func24 (c := ref27_Put.c) (by kernel_rfl) (by kernel_rfl) (by kernel_rfl) n hp (by rw [show (pol.ann 24).1 = ref27_Put.A by kernel_rfl, show (pol.ann 24).2 = ref27_Put.an by kernel_rfl, body_real _ _ (by kernel_rfl)]; exact he) hw hro
noncomputable abbrev ref27_Get.JD (n : Nat) : Jn (AEnd × H) := ref27_Get.J D n
theorem ref27_Get.fx (n : Nat) : ref27_Get.F D n (ref27_Get.JD n) := realJ_fix
theorem ref27_Get.den (n : Nat) {x0 : AV} {h h' : H} {v : AV} (hp : pureL [x0] = true) (he : ref27_Get.f (ref27_Get.JD n) x0 [] = some (.ret v, h')) (hw : v.pure = true) (hro : retOk Tryz.f25 (.ret v) = true) : D n_warrantorref27_Get [x0] h = some (.ret v, h) :=
  den_val0 (by kernel_rfl) Tryz.func25 (c := ref27_Get.c) (by kernel_rfl) (by kernel_rfl) (by kernel_rfl) n hp (by rw [show (pol.ann 25).1 = ref27_Get.A by kernel_rfl, show (pol.ann 25).2 = ref27_Get.an by kernel_rfl, body_real _ _ (by kernel_rfl)]; exact he) hw hro
noncomputable abbrev ref27_Frame.JD (n : Nat) : Jn (AEnd × H) := ref27_Frame.J D n
theorem ref27_Frame.fx (n : Nat) : ref27_Frame.F D n (ref27_Frame.JD n) := realJ_fix
theorem ref27_Frame.den (n : Nat) {x0 : AV} {h h' : H} {v : AV} (hp : pureL [x0] = true) (he : ref27_Frame.f (ref27_Frame.JD n) x0 [] = some (.ret v, h')) (hw : v.pure = true) (hro : retOk Tryz.f26 (.ret v) = true) : D n_warrantorref27_Frame [x0] h = some (.ret v, h) :=
  den_val0 (by kernel_rfl) Tryz.func26 (c := ref27_Frame.c) (by kernel_rfl) (by kernel_rfl) (by kernel_rfl) n hp (by rw [show (pol.ann 26).1 = ref27_Frame.A by kernel_rfl, show (pol.ann 26).2 = ref27_Frame.an by kernel_rfl, body_real _ _ (by kernel_rfl)]; exact he) hw hro
noncomputable abbrev ref27_Changes.JD (n : Nat) : Jn (AEnd × H) := ref27_Changes.J D n
theorem ref27_Changes.fx (n : Nat) : ref27_Changes.F D n (ref27_Changes.JD n) := realJ_fix
theorem ref27_Changes.den (n : Nat) {x0 : AV} {h h' : H} {v : AV} (hp : pureL [x0] = true) (he : ref27_Changes.f (ref27_Changes.JD n) x0 [] = some (.ret v, h')) (hw : v.pure = true) (hro : retOk Tryz.f27 (.ret v) = true) : D n_warrantorref27_Changes [x0] h = some (.ret v, h) :=
  den_val0 (by kernel_rfl) Tryz.func27 (c := ref27_Changes.c) (by kernel_rfl) (by kernel_rfl) (by kernel_rfl) n hp (by rw [show (pol.ann 27).1 = ref27_Changes.A by kernel_rfl, show (pol.ann 27).2 = ref27_Changes.an by kernel_rfl, body_real _ _ (by kernel_rfl)]; exact he) hw hro
noncomputable abbrev ref27_Body.JD (n : Nat) : Jn (AEnd × H) := ref27_Body.J D n
theorem ref27_Body.fx (n : Nat) : ref27_Body.F D n (ref27_Body.JD n) := realJ_fix
theorem ref27_Body.den (n : Nat) {x0 : AV} {h h' : H} {v : AV} (hp : pureL [x0] = true) (he : ref27_Body.f (ref27_Body.JD n) x0 [] = some (.ret v, h')) (hw : v.pure = true) (hro : retOk Tryz.f28 (.ret v) = true) : D n_warrantorref27_Body [x0] h = some (.ret v, h) :=
  den_val0 (by kernel_rfl) Tryz.func28 (c := ref27_Body.c) (by kernel_rfl) (by kernel_rfl) (by kernel_rfl) n hp (by rw [show (pol.ann 28).1 = ref27_Body.A by kernel_rfl, show (pol.ann 28).2 = ref27_Body.an by kernel_rfl, body_real _ _ (by kernel_rfl)]; exact he) hw hro
noncomputable abbrev ref03_Turn.JD (n : Nat) : Jn (AEnd × H) := ref03_Turn.J D n
theorem ref03_Turn.fx (n : Nat) : ref03_Turn.F D n (ref03_Turn.JD n) := realJ_fix
theorem ref03_Turn.den (n : Nat) {x0 x1 x2 : AV} {h h' : H} {v : AV} (hp : pureL [x0, x1, x2] = true) (he : ref03_Turn.f (ref03_Turn.JD n) x0 x1 x2 [] = some (.ret v, h')) (hw : v.pure = true) (hro : retOk Tryz.f29 (.ret v) = true) : D n_warrantorref03_Turn [x0, x1, x2] h = some (.ret v, h) :=
  den_val0 (by kernel_rfl) Tryz.func29 (c := ref03_Turn.c) (by kernel_rfl) (by kernel_rfl) (by kernel_rfl) n hp (by rw [show (pol.ann 29).1 = ref03_Turn.A by kernel_rfl, show (pol.ann 29).2 = ref03_Turn.an by kernel_rfl, body_real _ _ (by kernel_rfl)]; exact he) hw hro
noncomputable abbrev ref17_Large.JD (n : Nat) : Jn (AEnd × H) := ref17_Large.J D n
theorem ref17_Large.fx (n : Nat) : ref17_Large.F D n (ref17_Large.JD n) := realJ_fix
theorem ref17_Large.den (n : Nat) {x0 : AV} {h h' : H} {v : AV} (hp : pureL [x0] = true) (he : ref17_Large.f (ref17_Large.JD n) x0 [] = some (.ret v, h')) (hw : v.pure = true) (hro : retOk Tryz.f45 (.ret v) = true) : D n_warrantorref17_Large [x0] h = some (.ret v, h) :=
  den_val0 (by kernel_rfl) Tryz.func45 (c := ref17_Large.c) (by kernel_rfl) (by kernel_rfl) (by kernel_rfl) n hp (by rw [show (pol.ann 45).1 = ref17_Large.A by kernel_rfl, show (pol.ann 45).2 = ref17_Large.an by kernel_rfl, body_real _ _ (by kernel_rfl)]; exact he) hw hro
noncomputable abbrev rec_kinds.JD (n : Nat) : Jn (AEnd × H) := rec_kinds.J D n
theorem rec_kinds.fx (n : Nat) : rec_kinds.F D n (rec_kinds.JD n) := realJ_fix
theorem rec_kinds.den (n : Nat) {h h' : H} {r : AEnd} (he : rec_kinds.f (rec_kinds.JD n)  h = some (r, h')) (hro : retOk Tryz.f46 r = true) : D n_rec_kinds [] h = some (r, h') :=
  den_at (by kernel_rfl) Tryz.func46 (c := rec_kinds.c) (by kernel_rfl) (ne0 (by kernel_rfl)) (by kernel_rfl) n (by rw [show (pol.ann 46).1 = rec_kinds.A by kernel_rfl, show (pol.ann 46).2 = rec_kinds.an by kernel_rfl, body_real _ _ (by kernel_rfl)]; exact he) hro
noncomputable abbrev alarm_Check.JD (n : Nat) : Jn (AEnd × H) := alarm_Check.J D n
theorem alarm_Check.fx (n : Nat) : alarm_Check.F D n (alarm_Check.JD n) := realJ_fix
theorem alarm_Check.den (n : Nat) {x0 : AV} {h h' : H} {v : AV} (hp : pureL [x0] = true) (he : alarm_Check.f (alarm_Check.JD n) x0 [] = some (.ret v, h')) (hw : v.pure = true) (hro : retOk Tryz.f47 (.ret v) = true) : D n_alarm_Check [x0] h = some (.ret v, h) :=
  den_val0 (by kernel_rfl) Tryz.func47 (c := alarm_Check.c) (by kernel_rfl) (by kernel_rfl) (by kernel_rfl) n hp (by rw [show (pol.ann 47).1 = alarm_Check.A by kernel_rfl, show (pol.ann 47).2 = alarm_Check.an by kernel_rfl, body_real _ _ (by kernel_rfl)]; exact he) hw hro
noncomputable abbrev rec_note.JD (n : Nat) : Jn (AEnd × H) := rec_note.J D n
theorem rec_note.fx (n : Nat) : rec_note.F D n (rec_note.JD n) := realJ_fix
theorem rec_note.den (n : Nat) {x0 : AV} {h h' : H} {v : AV} (hp : pureL [x0] = true) (he : rec_note.f (rec_note.JD n) x0 [] = some (.ret v, h')) (hw : v.pure = true) (hro : retOk Tryz.f48 (.ret v) = true) : D n_rec_note [x0] h = some (.ret v, h) :=
  den_val0 (by kernel_rfl) Tryz.func48 (c := rec_note.c) (by kernel_rfl) (by kernel_rfl) (by kernel_rfl) n hp (by rw [show (pol.ann 48).1 = rec_note.A by kernel_rfl, show (pol.ann 48).2 = rec_note.an by kernel_rfl, body_real _ _ (by kernel_rfl)]; exact he) hw hro
noncomputable abbrev ref17_Check.JD (n : Nat) : Jn (AEnd × H) := ref17_Check.J D n
theorem ref17_Check.fx (n : Nat) : ref17_Check.F D n (ref17_Check.JD n) := realJ_fix
theorem ref17_Check.den (n : Nat) {x0 : AV} {h h' : H} {v : AV} (hp : pureL [x0] = true) (he : ref17_Check.f (ref17_Check.JD n) x0 [] = some (.ret v, h')) (hw : v.pure = true) (hro : retOk Tryz.f49 (.ret v) = true) : D n_warrantorref17_Check [x0] h = some (.ret v, h) :=
  den_val0 (by kernel_rfl) Tryz.func49 (c := ref17_Check.c) (by kernel_rfl) (by kernel_rfl) (by kernel_rfl) n hp (by rw [show (pol.ann 49).1 = ref17_Check.A by kernel_rfl, show (pol.ann 49).2 = ref17_Check.an by kernel_rfl, body_real _ _ (by kernel_rfl)]; exact he) hw hro
noncomputable abbrev ref21_Note.JD (n : Nat) : Jn (AEnd × H) := ref21_Note.J D n
theorem ref21_Note.fx (n : Nat) : ref21_Note.F D n (ref21_Note.JD n) := realJ_fix
theorem ref21_Note.den (n : Nat) {x0 : AV} {h h' : H} {v : AV} (hp : pureL [x0] = true) (he : ref21_Note.f (ref21_Note.JD n) x0 [] = some (.ret v, h')) (hw : v.pure = true) (hro : retOk Tryz.f50 (.ret v) = true) : D n_warrantorref21_Note [x0] h = some (.ret v, h) :=
  den_val0 (by kernel_rfl) Tryz.func50 (c := ref21_Note.c) (by kernel_rfl) (by kernel_rfl) (by kernel_rfl) n hp (by rw [show (pol.ann 50).1 = ref21_Note.A by kernel_rfl, show (pol.ann 50).2 = ref21_Note.an by kernel_rfl, body_real _ _ (by kernel_rfl)]; exact he) hw hro
noncomputable abbrev ref27_Uses.JD (n : Nat) : Jn (AEnd × H) := ref27_Uses.J D n
theorem ref27_Uses.fx (n : Nat) : ref27_Uses.F D n (ref27_Uses.JD n) := realJ_fix
theorem ref27_Uses.den (n : Nat) {x0 x1 : AV} {h h' : H} {v : AV} (hp : pureL [x0, x1] = true) (he : ref27_Uses.f (ref27_Uses.JD n) x0 x1 [] = some (.ret v, h')) (hw : v.pure = true) (hro : retOk Tryz.f51 (.ret v) = true) : D n_warrantorref27_Uses [x0, x1] h = some (.ret v, h) :=
  den_val0 (by kernel_rfl) Tryz.func51 (c := ref27_Uses.c) (by kernel_rfl) (by kernel_rfl) (by kernel_rfl) n hp (by rw [show (pol.ann 51).1 = ref27_Uses.A by kernel_rfl, show (pol.ann 51).2 = ref27_Uses.an by kernel_rfl, body_real _ _ (by kernel_rfl)]; exact he) hw hro
noncomputable abbrev slices_Equal_api_Change_api_Change.JD (n : Nat) : Jn (AEnd × H) := slices_Equal_api_Change_api_Change.J D n
theorem slices_Equal_api_Change_api_Change.fx (n : Nat) : slices_Equal_api_Change_api_Change.F D n (slices_Equal_api_Change_api_Change.JD n) := realJ_fix
theorem slices_Equal_api_Change_api_Change.den (n : Nat) {x0 x1 : AV} {h h' : H} {v : AV} (hp : pureL [x0, x1] = true) (he : slices_Equal_api_Change_api_Change.f (slices_Equal_api_Change_api_Change.JD n) x0 x1 [] = some (.ret v, h')) (hw : v.pure = true) (hro : retOk Tryz.f52 (.ret v) = true) : D n_slices_Equal_api_Change_api_Change [x0, x1] h = some (.ret v, h) :=
  den_val0 (by kernel_rfl) Tryz.func52 (c := slices_Equal_api_Change_api_Change.c) (by kernel_rfl) (by kernel_rfl) (by kernel_rfl) n hp (by rw [show (pol.ann 52).1 = slices_Equal_api_Change_api_Change.A by kernel_rfl, show (pol.ann 52).2 = slices_Equal_api_Change_api_Change.an by kernel_rfl, body_real _ _ (by kernel_rfl)]; exact he) hw hro
noncomputable abbrev rec_batch.JD (n : Nat) : Jn (AEnd × H) := rec_batch.J D n
theorem rec_batch.fx (n : Nat) : rec_batch.F D n (rec_batch.JD n) := realJ_fix
theorem rec_batch.den (n : Nat) {x0 : AV} {h h' : H} {v : AV} (hp : pureL [x0] = true) (he : rec_batch.f (rec_batch.JD n) x0 [] = some (.ret v, h')) (hw : v.pure = true) (hro : retOk Tryz.f53 (.ret v) = true) : D n_rec_batch [x0] h = some (.ret v, h) :=
  den_val0 (by kernel_rfl) Tryz.func53 (c := rec_batch.c) (by kernel_rfl) (by kernel_rfl) (by kernel_rfl) n hp (by rw [show (pol.ann 53).1 = rec_batch.A by kernel_rfl, show (pol.ann 53).2 = rec_batch.an by kernel_rfl, body_real _ _ (by kernel_rfl)]; exact he) hw hro
noncomputable abbrev cur_New.JD (n : Nat) : Jn (AEnd × H) := cur_New.J D n
theorem cur_New.fx (n : Nat) : cur_New.F D n (cur_New.JD n) := realJ_fix
theorem cur_New.den (n : Nat) {h h' : H} {r : AEnd} (he : cur_New.f (cur_New.JD n)  h = some (r, h')) (hro : retOk Tryz.f54 r = true) : D n_cur_New [] h = some (r, h') :=
  den_at (by kernel_rfl) Tryz.func54 (c := cur_New.c) (by kernel_rfl) (ne0 (by kernel_rfl)) (by kernel_rfl) n (by rw [show (pol.ann 54).1 = cur_New.A by kernel_rfl, show (pol.ann 54).2 = cur_New.an by kernel_rfl, body_real _ _ (by kernel_rfl)]; exact he) hro
noncomputable abbrev cur_Pen_Text.JD (n : Nat) : Jn (AEnd × H) := cur_Pen_Text.J D n
theorem cur_Pen_Text.fx (n : Nat) : cur_Pen_Text.F D n (cur_Pen_Text.JD n) := realJ_fix
theorem cur_Pen_Text.den (n : Nat) {x0 x1 : AV} {h h' : H} {r : AEnd} (he : cur_Pen_Text.f (cur_Pen_Text.JD n) x0 x1 h = some (r, h')) (hro : retOk Tryz.f55 r = true) : D n_cur_Pen_Text [x0, x1] h = some (r, h') :=
  den_at (by kernel_rfl) Tryz.func55 (c := cur_Pen_Text.c) (by kernel_rfl) (ne0 (by kernel_rfl)) (by kernel_rfl) n (by rw [show (pol.ann 55).1 = cur_Pen_Text.A by kernel_rfl, show (pol.ann 55).2 = cur_Pen_Text.an by kernel_rfl, body_real _ _ (by kernel_rfl)]; exact he) hro
noncomputable abbrev rec_body.JD (n : Nat) : Jn (AEnd × H) := rec_body.J D n
theorem rec_body.fx (n : Nat) : rec_body.F D n (rec_body.JD n) := realJ_fix
theorem rec_body.den (n : Nat) {x0 : AV} {h h' : H} {v : AV} (hp : pureL [x0] = true) (he : rec_body.f (rec_body.JD n) x0 [] = some (.ret v, h')) (hw : v.pure = true) (hro : retOk Tryz.f56 (.ret v) = true) : D n_rec_body [x0] h = some (.ret v, h) :=
  den_val0 (by kernel_rfl) Tryz.func56 (c := rec_body.c) (by kernel_rfl) (by kernel_rfl) (by kernel_rfl) n hp (by rw [show (pol.ann 56).1 = rec_body.A by kernel_rfl, show (pol.ann 56).2 = rec_body.an by kernel_rfl, body_real _ _ (by kernel_rfl)]; exact he) hw hro
noncomputable abbrev cur_Pen_Word.JD (n : Nat) : Jn (AEnd × H) := cur_Pen_Word.J D n
theorem cur_Pen_Word.fx (n : Nat) : cur_Pen_Word.F D n (cur_Pen_Word.JD n) := realJ_fix
theorem cur_Pen_Word.den (n : Nat) {x0 x1 : AV} {h h' : H} {r : AEnd} (he : cur_Pen_Word.f (cur_Pen_Word.JD n) x0 x1 h = some (r, h')) (hro : retOk Tryz.f57 r = true) : D n_cur_Pen_Word [x0, x1] h = some (r, h') :=
  den_at (by kernel_rfl) Tryz.func57 (c := cur_Pen_Word.c) (by kernel_rfl) (ne0 (by kernel_rfl)) (by kernel_rfl) n (by rw [show (pol.ann 57).1 = cur_Pen_Word.A by kernel_rfl, show (pol.ann 57).2 = cur_Pen_Word.an by kernel_rfl, body_real _ _ (by kernel_rfl)]; exact he) hro
noncomputable abbrev crc_Sum.JD (n : Nat) : Jn (AEnd × H) := crc_Sum.J D n
theorem crc_Sum.fx (n : Nat) : crc_Sum.F D n (crc_Sum.JD n) := realJ_fix
theorem crc_Sum.den (n : Nat) {x0 : AV} {h h' : H} {v : AV} (hp : pureL [x0] = true) (he : crc_Sum.f (crc_Sum.JD n) x0 [] = some (.ret v, h')) (hw : v.pure = true) (hro : retOk Tryz.f58 (.ret v) = true) : D n_crc_Sum [x0] h = some (.ret v, h) :=
  den_val0 (by kernel_rfl) Tryz.func58 (c := crc_Sum.c) (by kernel_rfl) (by kernel_rfl) (by kernel_rfl) n hp (by rw [show (pol.ann 58).1 = crc_Sum.A by kernel_rfl, show (pol.ann 58).2 = crc_Sum.an by kernel_rfl, body_real _ _ (by kernel_rfl)]; exact he) hw hro
noncomputable abbrev cur_Pen_Bytes.JD (n : Nat) : Jn (AEnd × H) := cur_Pen_Bytes.J D n
theorem cur_Pen_Bytes.fx (n : Nat) : cur_Pen_Bytes.F D n (cur_Pen_Bytes.JD n) := realJ_fix
theorem cur_Pen_Bytes.den (n : Nat) {x0 : AV} {h h' : H} {r : AEnd} (he : cur_Pen_Bytes.f (cur_Pen_Bytes.JD n) x0 h = some (r, h')) (hro : retOk Tryz.f59 r = true) : D n_cur_Pen_Bytes [x0] h = some (r, h') :=
  den_at (by kernel_rfl) Tryz.func59 (c := cur_Pen_Bytes.c) (by kernel_rfl) (ne0 (by kernel_rfl)) (by kernel_rfl) n (by rw [show (pol.ann 59).1 = cur_Pen_Bytes.A by kernel_rfl, show (pol.ann 59).2 = cur_Pen_Bytes.an by kernel_rfl, body_real _ _ (by kernel_rfl)]; exact he) hro
noncomputable abbrev cur_From.JD (n : Nat) : Jn (AEnd × H) := cur_From.J D n
theorem cur_From.fx (n : Nat) : cur_From.F D n (cur_From.JD n) := realJ_fix
theorem cur_From.den (n : Nat) {x0 : AV} {h h' : H} {r : AEnd} (he : cur_From.f (cur_From.JD n) x0 h = some (r, h')) (hro : retOk Tryz.f60 r = true) : D n_cur_From [x0] h = some (r, h') :=
  den_at (by kernel_rfl) Tryz.func60 (c := cur_From.c) (by kernel_rfl) (ne0 (by kernel_rfl)) (by kernel_rfl) n (by rw [show (pol.ann 60).1 = cur_From.A by kernel_rfl, show (pol.ann 60).2 = cur_From.an by kernel_rfl, body_real _ _ (by kernel_rfl)]; exact he) hro
noncomputable abbrev cur_Reader_Text.JD (n : Nat) : Jn (AEnd × H) := cur_Reader_Text.J D n
theorem cur_Reader_Text.fx (n : Nat) : cur_Reader_Text.F D n (cur_Reader_Text.JD n) := realJ_fix
theorem cur_Reader_Text.den (n : Nat) {x0 x1 : AV} {h h' : H} {r : AEnd} (he : cur_Reader_Text.f (cur_Reader_Text.JD n) x0 x1 h = some (r, h')) (hro : retOk Tryz.f61 r = true) : D n_cur_Reader_Text [x0, x1] h = some (r, h') :=
  den_at (by kernel_rfl) Tryz.func61 (c := cur_Reader_Text.c) (by kernel_rfl) (ne0 (by kernel_rfl)) (by kernel_rfl) n (by rw [show (pol.ann 61).1 = cur_Reader_Text.A by kernel_rfl, show (pol.ann 61).2 = cur_Reader_Text.an by kernel_rfl, body_real _ _ (by kernel_rfl)]; exact he) hro
noncomputable abbrev cur_Reader_At.JD (n : Nat) : Jn (AEnd × H) := cur_Reader_At.J D n
theorem cur_Reader_At.fx (n : Nat) : cur_Reader_At.F D n (cur_Reader_At.JD n) := realJ_fix
theorem cur_Reader_At.den (n : Nat) {x0 : AV} {h h' : H} {r : AEnd} (he : cur_Reader_At.f (cur_Reader_At.JD n) x0 h = some (r, h')) (hro : retOk Tryz.f62 r = true) : D n_cur_Reader_At [x0] h = some (r, h') :=
  den_at (by kernel_rfl) Tryz.func62 (c := cur_Reader_At.c) (by kernel_rfl) (ne0 (by kernel_rfl)) (by kernel_rfl) n (by rw [show (pol.ann 62).1 = cur_Reader_At.A by kernel_rfl, show (pol.ann 62).2 = cur_Reader_At.an by kernel_rfl, body_real _ _ (by kernel_rfl)]; exact he) hro
noncomputable abbrev cur_Reader_Word.JD (n : Nat) : Jn (AEnd × H) := cur_Reader_Word.J D n
theorem cur_Reader_Word.fx (n : Nat) : cur_Reader_Word.F D n (cur_Reader_Word.JD n) := realJ_fix
theorem cur_Reader_Word.den (n : Nat) {x0 : AV} {h h' : H} {r : AEnd} (he : cur_Reader_Word.f (cur_Reader_Word.JD n) x0 h = some (r, h')) (hro : retOk Tryz.f63 r = true) : D n_cur_Reader_Word [x0] h = some (r, h') :=
  den_at (by kernel_rfl) Tryz.func63 (c := cur_Reader_Word.c) (by kernel_rfl) (ne0 (by kernel_rfl)) (by kernel_rfl) n (by rw [show (pol.ann 63).1 = cur_Reader_Word.A by kernel_rfl, show (pol.ann 63).2 = cur_Reader_Word.an by kernel_rfl, body_real _ _ (by kernel_rfl)]; exact he) hro
noncomputable abbrev cur_Reader_Err.JD (n : Nat) : Jn (AEnd × H) := cur_Reader_Err.J D n
theorem cur_Reader_Err.fx (n : Nat) : cur_Reader_Err.F D n (cur_Reader_Err.JD n) := realJ_fix
theorem cur_Reader_Err.den (n : Nat) {x0 : AV} {h h' : H} {r : AEnd} (he : cur_Reader_Err.f (cur_Reader_Err.JD n) x0 h = some (r, h')) (hro : retOk Tryz.f64 r = true) : D n_cur_Reader_Err [x0] h = some (r, h') :=
  den_at (by kernel_rfl) Tryz.func64 (c := cur_Reader_Err.c) (by kernel_rfl) (ne0 (by kernel_rfl)) (by kernel_rfl) n (by rw [show (pol.ann 64).1 = cur_Reader_Err.A by kernel_rfl, show (pol.ann 64).2 = cur_Reader_Err.an by kernel_rfl, body_real _ _ (by kernel_rfl)]; exact he) hro
noncomputable abbrev crc_Whole.JD (n : Nat) : Jn (AEnd × H) := crc_Whole.J D n
theorem crc_Whole.fx (n : Nat) : crc_Whole.F D n (crc_Whole.JD n) := realJ_fix
theorem crc_Whole.den (n : Nat) {x0 x1 : AV} {h h' : H} {v : AV} (hp : pureL [x0, x1] = true) (he : crc_Whole.f (crc_Whole.JD n) x0 x1 [] = some (.ret v, h')) (hw : v.pure = true) (hro : retOk Tryz.f65 (.ret v) = true) : D n_crc_Whole [x0, x1] h = some (.ret v, h) :=
  den_val0 (by kernel_rfl) Tryz.func65 (c := crc_Whole.c) (by kernel_rfl) (by kernel_rfl) (by kernel_rfl) n hp (by rw [show (pol.ann 65).1 = crc_Whole.A by kernel_rfl, show (pol.ann 65).2 = crc_Whole.an by kernel_rfl, body_real _ _ (by kernel_rfl)]; exact he) hw hro
noncomputable abbrev rec_read.JD (n : Nat) : Jn (AEnd × H) := rec_read.J D n
theorem rec_read.fx (n : Nat) : rec_read.F D n (rec_read.JD n) := realJ_fix
theorem rec_read.den (n : Nat) {x0 : AV} {h h' : H} {v : AV} (hp : pureL [x0] = true) (he : rec_read.f (rec_read.JD n) x0 [] = some (.ret v, h')) (hw : v.pure = true) (hro : retOk Tryz.f66 (.ret v) = true) : D n_rec_read [x0] h = some (.ret v, h) :=
  den_val0 (by kernel_rfl) Tryz.func66 (c := rec_read.c) (by kernel_rfl) (by kernel_rfl) (by kernel_rfl) n hp (by rw [show (pol.ann 66).1 = rec_read.A by kernel_rfl, show (pol.ann 66).2 = rec_read.an by kernel_rfl, body_real _ _ (by kernel_rfl)]; exact he) hw hro
noncomputable abbrev ref27_Open.JD (n : Nat) : Jn (AEnd × H) := ref27_Open.J D n
theorem ref27_Open.fx (n : Nat) : ref27_Open.F D n (ref27_Open.JD n) := realJ_fix
theorem ref27_Open.den (n : Nat) {x0 : AV} {h h' : H} {v : AV} (hp : pureL [x0] = true) (he : ref27_Open.f (ref27_Open.JD n) x0 [] = some (.ret v, h')) (hw : v.pure = true) (hro : retOk Tryz.f67 (.ret v) = true) : D n_warrantorref27_Open [x0] h = some (.ret v, h) :=
  den_val0 (by kernel_rfl) Tryz.func67 (c := ref27_Open.c) (by kernel_rfl) (by kernel_rfl) (by kernel_rfl) n hp (by rw [show (pol.ann 67).1 = ref27_Open.A by kernel_rfl, show (pol.ann 67).2 = ref27_Open.an by kernel_rfl, body_real _ _ (by kernel_rfl)]; exact he) hw hro
noncomputable abbrev ref02_Text.JD (n : Nat) : Jn (AEnd × H) := ref02_Text.J D n
theorem ref02_Text.fx (n : Nat) : ref02_Text.F D n (ref02_Text.JD n) := realJ_fix
theorem ref02_Text.den (n : Nat) {x0 : AV} {h h' : H} {v : AV} (hp : pureL [x0] = true) (he : ref02_Text.f (ref02_Text.JD n) x0 [] = some (.ret v, h')) (hw : v.pure = true) (hro : retOk Tryz.f68 (.ret v) = true) : D n_warrantorref02_Text [x0] h = some (.ret v, h) :=
  den_val0 (by kernel_rfl) Tryz.func68 (c := ref02_Text.c) (by kernel_rfl) (by kernel_rfl) (by kernel_rfl) n hp (by rw [show (pol.ann 68).1 = ref02_Text.A by kernel_rfl, show (pol.ann 68).2 = ref02_Text.an by kernel_rfl, body_real _ _ (by kernel_rfl)]; exact he) hw hro
noncomputable abbrev ref02_Word.JD (n : Nat) : Jn (AEnd × H) := ref02_Word.J D n
theorem ref02_Word.fx (n : Nat) : ref02_Word.F D n (ref02_Word.JD n) := realJ_fix
theorem ref02_Word.den (n : Nat) {x0 : AV} {h h' : H} {v : AV} (hp : pureL [x0] = true) (he : ref02_Word.f (ref02_Word.JD n) x0 [] = some (.ret v, h')) (hw : v.pure = true) (hro : retOk Tryz.f69 (.ret v) = true) : D n_warrantorref02_Word [x0] h = some (.ret v, h) :=
  den_val0 (by kernel_rfl) Tryz.func69 (c := ref02_Word.c) (by kernel_rfl) (by kernel_rfl) (by kernel_rfl) n hp (by rw [show (pol.ann 69).1 = ref02_Word.A by kernel_rfl, show (pol.ann 69).2 = ref02_Word.an by kernel_rfl, body_real _ _ (by kernel_rfl)]; exact he) hw hro
noncomputable abbrev ref03_Sum.JD (n : Nat) : Jn (AEnd × H) := ref03_Sum.J D n
theorem ref03_Sum.fx (n : Nat) : ref03_Sum.F D n (ref03_Sum.JD n) := realJ_fix
theorem ref03_Sum.den (n : Nat) {x0 : AV} {h h' : H} {v : AV} (hp : pureL [x0] = true) (he : ref03_Sum.f (ref03_Sum.JD n) x0 [] = some (.ret v, h')) (hw : v.pure = true) (hro : retOk Tryz.f70 (.ret v) = true) : D n_warrantorref03_Sum [x0] h = some (.ret v, h) :=
  den_val0 (by kernel_rfl) Tryz.func70 (c := ref03_Sum.c) (by kernel_rfl) (by kernel_rfl) (by kernel_rfl) n hp (by rw [show (pol.ann 70).1 = ref03_Sum.A by kernel_rfl, show (pol.ann 70).2 = ref03_Sum.an by kernel_rfl, body_real _ _ (by kernel_rfl)]; exact he) hw hro
noncomputable abbrev ref02_Reader_Count.JD (n : Nat) : Jn (AEnd × H) := ref02_Reader_Count.J D n
theorem ref02_Reader_Count.fx (n : Nat) : ref02_Reader_Count.F D n (ref02_Reader_Count.JD n) := realJ_fix
theorem ref02_Reader_Count.den (n : Nat) {x0 x1 : AV} {h h' : H} {r : AEnd} (he : ref02_Reader_Count.f (ref02_Reader_Count.JD n) x0 x1 h = some (r, h')) (hro : retOk Tryz.f71 r = true) : D n_warrantorref02_Reader_Count [x0, x1] h = some (r, h') :=
  den_at (by kernel_rfl) Tryz.func71 (c := ref02_Reader_Count.c) (by kernel_rfl) (ne0 (by kernel_rfl)) (by kernel_rfl) n (by rw [show (pol.ann 71).1 = ref02_Reader_Count.A by kernel_rfl, show (pol.ann 71).2 = ref02_Reader_Count.an by kernel_rfl, body_real _ _ (by kernel_rfl)]; exact he) hro
noncomputable abbrev ref27_change.JD (n : Nat) : Jn (AEnd × H) := ref27_change.J D n
theorem ref27_change.fx (n : Nat) : ref27_change.F D n (ref27_change.JD n) := realJ_fix
theorem ref27_change.den (n : Nat) {x0 : AV} {h h' : H} {r : AEnd} (he : ref27_change.f (ref27_change.JD n) x0 h = some (r, h')) (hro : retOk Tryz.f72 r = true) : D n_warrantorref27_change [x0] h = some (r, h') :=
  den_at (by kernel_rfl) Tryz.func72 (c := ref27_change.c) (by kernel_rfl) (ne0 (by kernel_rfl)) (by kernel_rfl) n (by rw [show (pol.ann 72).1 = ref27_change.A by kernel_rfl, show (pol.ann 72).2 = ref27_change.an by kernel_rfl, body_real _ _ (by kernel_rfl)]; exact he) hro
noncomputable abbrev ref02_Reader_End.JD (n : Nat) : Jn (AEnd × H) := ref02_Reader_End.J D n
theorem ref02_Reader_End.fx (n : Nat) : ref02_Reader_End.F D n (ref02_Reader_End.JD n) := realJ_fix
theorem ref02_Reader_End.den (n : Nat) {x0 : AV} {h h' : H} {r : AEnd} (he : ref02_Reader_End.f (ref02_Reader_End.JD n) x0 h = some (r, h')) (hro : retOk Tryz.f73 r = true) : D n_warrantorref02_Reader_End [x0] h = some (r, h') :=
  den_at (by kernel_rfl) Tryz.func73 (c := ref02_Reader_End.c) (by kernel_rfl) (ne0 (by kernel_rfl)) (by kernel_rfl) n (by rw [show (pol.ann 73).1 = ref02_Reader_End.A by kernel_rfl, show (pol.ann 73).2 = ref02_Reader_End.an by kernel_rfl, body_real _ _ (by kernel_rfl)]; exact he) hro
noncomputable abbrev ref02_Num.JD (n : Nat) : Jn (AEnd × H) := ref02_Num.J D n
theorem ref02_Num.fx (n : Nat) : ref02_Num.F D n (ref02_Num.JD n) := realJ_fix
theorem ref02_Num.den (n : Nat) {x0 : AV} {h h' : H} {v : AV} (hp : pureL [x0] = true) (he : ref02_Num.f (ref02_Num.JD n) x0 [] = some (.ret v, h')) (hw : v.pure = true) (hro : retOk Tryz.f74 (.ret v) = true) : D n_warrantorref02_Num [x0] h = some (.ret v, h) :=
  den_val0 (by kernel_rfl) Tryz.func74 (c := ref02_Num.c) (by kernel_rfl) (by kernel_rfl) (by kernel_rfl) n hp (by rw [show (pol.ann 74).1 = ref02_Num.A by kernel_rfl, show (pol.ann 74).2 = ref02_Num.an by kernel_rfl, body_real _ _ (by kernel_rfl)]; exact he) hw hro
noncomputable abbrev ref27_alarm.JD (n : Nat) : Jn (AEnd × H) := ref27_alarm.J D n
theorem ref27_alarm.fx (n : Nat) : ref27_alarm.F D n (ref27_alarm.JD n) := realJ_fix
theorem ref27_alarm.den (n : Nat) {x0 : AV} {h h' : H} {v : AV} (hp : pureL [x0] = true) (he : ref27_alarm.f (ref27_alarm.JD n) x0 [] = some (.ret v, h')) (hw : v.pure = true) (hro : retOk Tryz.f75 (.ret v) = true) : D n_warrantorref27_alarm [x0] h = some (.ret v, h) :=
  den_val0 (by kernel_rfl) Tryz.func75 (c := ref27_alarm.c) (by kernel_rfl) (by kernel_rfl) (by kernel_rfl) n hp (by rw [show (pol.ann 75).1 = ref27_alarm.A by kernel_rfl, show (pol.ann 75).2 = ref27_alarm.an by kernel_rfl, body_real _ _ (by kernel_rfl)]; exact he) hw hro
noncomputable abbrev cur_Pen_U.JD (n : Nat) : Jn (AEnd × H) := cur_Pen_U.J D n
theorem cur_Pen_U.fx (n : Nat) : cur_Pen_U.F D n (cur_Pen_U.JD n) := realJ_fix
theorem cur_Pen_U.den (n : Nat) {x0 x1 : AV} {h h' : H} {r : AEnd} (he : cur_Pen_U.f (cur_Pen_U.JD n) x0 x1 h = some (r, h')) (hro : retOk Tryz.f77 r = true) : D n_cur_Pen_U [x0, x1] h = some (r, h') :=
  den_at (by kernel_rfl) Tryz.func77 (c := cur_Pen_U.c) (by kernel_rfl) (ne0 (by kernel_rfl)) (by kernel_rfl) n (by rw [show (pol.ann 77).1 = cur_Pen_U.A by kernel_rfl, show (pol.ann 77).2 = cur_Pen_U.an by kernel_rfl, body_real _ _ (by kernel_rfl)]; exact he) hro
noncomputable abbrev slices_Equal_api_Entry_api_Entry.JD (n : Nat) : Jn (AEnd × H) := slices_Equal_api_Entry_api_Entry.J D n
theorem slices_Equal_api_Entry_api_Entry.fx (n : Nat) : slices_Equal_api_Entry_api_Entry.F D n (slices_Equal_api_Entry_api_Entry.JD n) := realJ_fix
theorem slices_Equal_api_Entry_api_Entry.den (n : Nat) {x0 x1 : AV} {h h' : H} {v : AV} (hp : pureL [x0, x1] = true) (he : slices_Equal_api_Entry_api_Entry.f (slices_Equal_api_Entry_api_Entry.JD n) x0 x1 [] = some (.ret v, h')) (hw : v.pure = true) (hro : retOk Tryz.f78 (.ret v) = true) : D n_slices_Equal_api_Entry_api_Entry [x0, x1] h = some (.ret v, h) :=
  den_val0 (by kernel_rfl) Tryz.func78 (c := slices_Equal_api_Entry_api_Entry.c) (by kernel_rfl) (by kernel_rfl) (by kernel_rfl) n hp (by rw [show (pol.ann 78).1 = slices_Equal_api_Entry_api_Entry.A by kernel_rfl, show (pol.ann 78).2 = slices_Equal_api_Entry_api_Entry.an by kernel_rfl, body_real _ _ (by kernel_rfl)]; exact he) hw hro
noncomputable abbrev slices_EqualFunc_api_Change_api_Change_api_Change_api_Change.JD (n : Nat) : Jn (AEnd × H) := slices_EqualFunc_api_Change_api_Change_api_Change_api_Change.J D n
theorem slices_EqualFunc_api_Change_api_Change_api_Change_api_Change.fx (n : Nat) : slices_EqualFunc_api_Change_api_Change_api_Change_api_Change.F D n (slices_EqualFunc_api_Change_api_Change_api_Change_api_Change.JD n) := realJ_fix
theorem slices_EqualFunc_api_Change_api_Change_api_Change_api_Change.den (n : Nat) {x0 x1 x2 : AV} {h h' : H} {v : AV} (hp : pureL [x0, x1, x2] = true) (he : slices_EqualFunc_api_Change_api_Change_api_Change_api_Change.f (slices_EqualFunc_api_Change_api_Change_api_Change_api_Change.JD n) x0 x1 x2 [] = some (.ret v, h')) (hw : v.pure = true) (hro : retOk Tryz.f79 (.ret v) = true) : D n_slices_EqualFunc_api_Change_api_Change_api_Change_api_Change [x0, x1, x2] h = some (.ret v, h) :=
  den_val0 (by kernel_rfl) Tryz.func79 (c := slices_EqualFunc_api_Change_api_Change_api_Change_api_Change.c) (by kernel_rfl) (by kernel_rfl) (by kernel_rfl) n hp (by rw [show (pol.ann 79).1 = slices_EqualFunc_api_Change_api_Change_api_Change_api_Change.A by kernel_rfl, show (pol.ann 79).2 = slices_EqualFunc_api_Change_api_Change_api_Change_api_Change.an by kernel_rfl, body_real _ _ (by kernel_rfl)]; exact he) hw hro
noncomputable abbrev rec_kinds_c1.JD (n : Nat) : Jn (AEnd × H) := rec_kinds_c1.J D n
theorem rec_kinds_c1.fx (n : Nat) : rec_kinds_c1.F D n (rec_kinds_c1.JD n) := realJ_fix
theorem rec_kinds_c1.den (n : Nat) {x0 : AV} {h h' : H} {v : AV} (hp : pureL [x0] = true) (he : rec_kinds_c1.f (rec_kinds_c1.JD n) x0 [] = some (.ret v, h')) (hw : v.pure = true) (hro : retOk Tryz.f87 (.ret v) = true) : D n_rec_kinds_c1 [x0] h = some (.ret v, h) :=
  den_val0 (by kernel_rfl) Tryz.func87 (c := rec_kinds_c1.c) (by kernel_rfl) (by kernel_rfl) (by kernel_rfl) n hp (by rw [show (pol.ann 87).1 = rec_kinds_c1.A by kernel_rfl, show (pol.ann 87).2 = rec_kinds_c1.an by kernel_rfl, body_real _ _ (by kernel_rfl)]; exact he) hw hro
noncomputable abbrev rec_pen_alarm.JD (n : Nat) : Jn (AEnd × H) := rec_pen_alarm.J D n
theorem rec_pen_alarm.fx (n : Nat) : rec_pen_alarm.F D n (rec_pen_alarm.JD n) := realJ_fix
theorem rec_pen_alarm.den (n : Nat) {x0 x1 : AV} {h h' : H} {r : AEnd} (he : rec_pen_alarm.f (rec_pen_alarm.JD n) x0 x1 h = some (r, h')) (hro : retOk Tryz.f88 r = true) : D n_rec_pen_alarm [x0, x1] h = some (r, h') :=
  den_at (by kernel_rfl) Tryz.func88 (c := rec_pen_alarm.c) (by kernel_rfl) (ne0 (by kernel_rfl)) (by kernel_rfl) n (by rw [show (pol.ann 88).1 = rec_pen_alarm.A by kernel_rfl, show (pol.ann 88).2 = rec_pen_alarm.an by kernel_rfl, body_real _ _ (by kernel_rfl)]; exact he) hro
noncomputable abbrev rec_taker_alarm.JD (n : Nat) : Jn (AEnd × H) := rec_taker_alarm.J D n
theorem rec_taker_alarm.fx (n : Nat) : rec_taker_alarm.F D n (rec_taker_alarm.JD n) := realJ_fix
theorem rec_taker_alarm.den (n : Nat) {x0 x1 : AV} {h h' : H} {r : AEnd} (he : rec_taker_alarm.f (rec_taker_alarm.JD n) x0 x1 h = some (r, h')) (hro : retOk Tryz.f89 r = true) : D n_rec_taker_alarm [x0, x1] h = some (r, h') :=
  den_at (by kernel_rfl) Tryz.func89 (c := rec_taker_alarm.c) (by kernel_rfl) (ne0 (by kernel_rfl)) (by kernel_rfl) n (by rw [show (pol.ann 89).1 = rec_taker_alarm.A by kernel_rfl, show (pol.ann 89).2 = rec_taker_alarm.an by kernel_rfl, body_real _ _ (by kernel_rfl)]; exact he) hro
noncomputable abbrev rec_kinds_c2.JD (n : Nat) : Jn (AEnd × H) := rec_kinds_c2.J D n
theorem rec_kinds_c2.fx (n : Nat) : rec_kinds_c2.F D n (rec_kinds_c2.JD n) := realJ_fix
theorem rec_kinds_c2.den (n : Nat) {x0 x1 : AV} {h h' : H} {r : AEnd} (he : rec_kinds_c2.f (rec_kinds_c2.JD n) x0 x1 h = some (r, h')) (hro : retOk Tryz.f90 r = true) : D n_rec_kinds_c2 [x0, x1] h = some (r, h') :=
  den_at (by kernel_rfl) Tryz.func90 (c := rec_kinds_c2.c) (by kernel_rfl) (ne0 (by kernel_rfl)) (by kernel_rfl) n (by rw [show (pol.ann 90).1 = rec_kinds_c2.A by kernel_rfl, show (pol.ann 90).2 = rec_kinds_c2.an by kernel_rfl, body_real _ _ (by kernel_rfl)]; exact he) hro
noncomputable abbrev rec_pen_note.JD (n : Nat) : Jn (AEnd × H) := rec_pen_note.J D n
theorem rec_pen_note.fx (n : Nat) : rec_pen_note.F D n (rec_pen_note.JD n) := realJ_fix
theorem rec_pen_note.den (n : Nat) {x0 x1 : AV} {h h' : H} {r : AEnd} (he : rec_pen_note.f (rec_pen_note.JD n) x0 x1 h = some (r, h')) (hro : retOk Tryz.f91 r = true) : D n_rec_pen_note [x0, x1] h = some (r, h') :=
  den_at (by kernel_rfl) Tryz.func91 (c := rec_pen_note.c) (by kernel_rfl) (ne0 (by kernel_rfl)) (by kernel_rfl) n (by rw [show (pol.ann 91).1 = rec_pen_note.A by kernel_rfl, show (pol.ann 91).2 = rec_pen_note.an by kernel_rfl, body_real _ _ (by kernel_rfl)]; exact he) hro
noncomputable abbrev rec_taker_note.JD (n : Nat) : Jn (AEnd × H) := rec_taker_note.J D n
theorem rec_taker_note.fx (n : Nat) : rec_taker_note.F D n (rec_taker_note.JD n) := realJ_fix
theorem rec_taker_note.den (n : Nat) {x0 x1 : AV} {h h' : H} {r : AEnd} (he : rec_taker_note.f (rec_taker_note.JD n) x0 x1 h = some (r, h')) (hro : retOk Tryz.f92 r = true) : D n_rec_taker_note [x0, x1] h = some (r, h') :=
  den_at (by kernel_rfl) Tryz.func92 (c := rec_taker_note.c) (by kernel_rfl) (ne0 (by kernel_rfl)) (by kernel_rfl) n (by rw [show (pol.ann 92).1 = rec_taker_note.A by kernel_rfl, show (pol.ann 92).2 = rec_taker_note.an by kernel_rfl, body_real _ _ (by kernel_rfl)]; exact he) hro
noncomputable abbrev rec_kinds_c3.JD (n : Nat) : Jn (AEnd × H) := rec_kinds_c3.J D n
theorem rec_kinds_c3.fx (n : Nat) : rec_kinds_c3.F D n (rec_kinds_c3.JD n) := realJ_fix
theorem rec_kinds_c3.den (n : Nat) {x0 x1 : AV} {h h' : H} {r : AEnd} (he : rec_kinds_c3.f (rec_kinds_c3.JD n) x0 x1 h = some (r, h')) (hro : retOk Tryz.f93 r = true) : D n_rec_kinds_c3 [x0, x1] h = some (r, h') :=
  den_at (by kernel_rfl) Tryz.func93 (c := rec_kinds_c3.c) (by kernel_rfl) (ne0 (by kernel_rfl)) (by kernel_rfl) n (by rw [show (pol.ann 93).1 = rec_kinds_c3.A by kernel_rfl, show (pol.ann 93).2 = rec_kinds_c3.an by kernel_rfl, body_real _ _ (by kernel_rfl)]; exact he) hro
noncomputable abbrev rec_pen_stand.JD (n : Nat) : Jn (AEnd × H) := rec_pen_stand.J D n
theorem rec_pen_stand.fx (n : Nat) : rec_pen_stand.F D n (rec_pen_stand.JD n) := realJ_fix
theorem rec_pen_stand.den (n : Nat) {x0 x1 : AV} {h h' : H} {r : AEnd} (he : rec_pen_stand.f (rec_pen_stand.JD n) x0 x1 h = some (r, h')) (hro : retOk Tryz.f94 r = true) : D n_rec_pen_stand [x0, x1] h = some (r, h') :=
  den_at (by kernel_rfl) Tryz.func94 (c := rec_pen_stand.c) (by kernel_rfl) (ne0 (by kernel_rfl)) (by kernel_rfl) n (by rw [show (pol.ann 94).1 = rec_pen_stand.A by kernel_rfl, show (pol.ann 94).2 = rec_pen_stand.an by kernel_rfl, body_real _ _ (by kernel_rfl)]; exact he) hro
noncomputable abbrev rec_taker_stand.JD (n : Nat) : Jn (AEnd × H) := rec_taker_stand.J D n
theorem rec_taker_stand.fx (n : Nat) : rec_taker_stand.F D n (rec_taker_stand.JD n) := realJ_fix
theorem rec_taker_stand.den (n : Nat) {x0 x1 : AV} {h h' : H} {r : AEnd} (he : rec_taker_stand.f (rec_taker_stand.JD n) x0 x1 h = some (r, h')) (hro : retOk Tryz.f95 r = true) : D n_rec_taker_stand [x0, x1] h = some (r, h') :=
  den_at (by kernel_rfl) Tryz.func95 (c := rec_taker_stand.c) (by kernel_rfl) (ne0 (by kernel_rfl)) (by kernel_rfl) n (by rw [show (pol.ann 95).1 = rec_taker_stand.A by kernel_rfl, show (pol.ann 95).2 = rec_taker_stand.an by kernel_rfl, body_real _ _ (by kernel_rfl)]; exact he) hro
noncomputable abbrev alarm_expr.JD (n : Nat) : Jn (AEnd × H) := alarm_expr.J D n
theorem alarm_expr.fx (n : Nat) : alarm_expr.F D n (alarm_expr.JD n) := realJ_fix
theorem alarm_expr.den (n : Nat) {x0 : AV} {h h' : H} {v : AV} (hp : pureL [x0] = true) (he : alarm_expr.f (alarm_expr.JD n) x0 [] = some (.ret v, h')) (hw : v.pure = true) (hro : retOk Tryz.f96 (.ret v) = true) : D n_alarm_expr [x0] h = some (.ret v, h) :=
  den_val0 (by kernel_rfl) Tryz.func96 (c := alarm_expr.c) (by kernel_rfl) (by kernel_rfl) (by kernel_rfl) n hp (by rw [show (pol.ann 96).1 = alarm_expr.A by kernel_rfl, show (pol.ann 96).2 = alarm_expr.an by kernel_rfl, body_real _ _ (by kernel_rfl)]; exact he) hw hro
noncomputable abbrev prog_Check.JD (n : Nat) : Jn (AEnd × H) := prog_Check.J D n
theorem prog_Check.fx (n : Nat) : prog_Check.F D n (prog_Check.JD n) := realJ_fix
theorem prog_Check.den (n : Nat) {x0 : AV} {h h' : H} {v : AV} (hp : pureL [x0] = true) (he : prog_Check.f (prog_Check.JD n) x0 [] = some (.ret v, h')) (hw : v.pure = true) (hro : retOk Tryz.f97 (.ret v) = true) : D n_prog_Check [x0] h = some (.ret v, h) :=
  den_val0 (by kernel_rfl) Tryz.func97 (c := prog_Check.c) (by kernel_rfl) (by kernel_rfl) (by kernel_rfl) n hp (by rw [show (pol.ann 97).1 = prog_Check.A by kernel_rfl, show (pol.ann 97).2 = prog_Check.an by kernel_rfl, body_real _ _ (by kernel_rfl)]; exact he) hw hro
noncomputable abbrev result_Base.JD (n : Nat) : Jn (AEnd × H) := result_Base.J D n
theorem result_Base.fx (n : Nat) : result_Base.F D n (result_Base.JD n) := realJ_fix
theorem result_Base.den (n : Nat) {x0 : AV} {h h' : H} {v : AV} (hp : pureL [x0] = true) (he : result_Base.f (result_Base.JD n) x0 [] = some (.ret v, h')) (hw : v.pure = true) (hro : retOk Tryz.f98 (.ret v) = true) : D n_result_Base [x0] h = some (.ret v, h) :=
  den_val0 (by kernel_rfl) Tryz.func98 (c := result_Base.c) (by kernel_rfl) (by kernel_rfl) (by kernel_rfl) n hp (by rw [show (pol.ann 98).1 = result_Base.A by kernel_rfl, show (pol.ann 98).2 = result_Base.an by kernel_rfl, body_real _ _ (by kernel_rfl)]; exact he) hw hro
noncomputable abbrev ref11_Name.JD (n : Nat) : Jn (AEnd × H) := ref11_Name.J D n
theorem ref11_Name.fx (n : Nat) : ref11_Name.F D n (ref11_Name.JD n) := realJ_fix
theorem ref11_Name.den (n : Nat) {x0 : AV} {h h' : H} {v : AV} (hp : pureL [x0] = true) (he : ref11_Name.f (ref11_Name.JD n) x0 [] = some (.ret v, h')) (hw : v.pure = true) (hro : retOk Tryz.f99 (.ret v) = true) : D n_warrantorref11_Name [x0] h = some (.ret v, h) :=
  den_val0 (by kernel_rfl) Tryz.func99 (c := ref11_Name.c) (by kernel_rfl) (by kernel_rfl) (by kernel_rfl) n hp (by rw [show (pol.ann 99).1 = ref11_Name.A by kernel_rfl, show (pol.ann 99).2 = ref11_Name.an by kernel_rfl, body_real _ _ (by kernel_rfl)]; exact he) hw hro
noncomputable abbrev ref11_File.JD (n : Nat) : Jn (AEnd × H) := ref11_File.J D n
theorem ref11_File.fx (n : Nat) : ref11_File.F D n (ref11_File.JD n) := realJ_fix
theorem ref11_File.den (n : Nat) {x0 : AV} {h h' : H} {v : AV} (hp : pureL [x0] = true) (he : ref11_File.f (ref11_File.JD n) x0 [] = some (.ret v, h')) (hw : v.pure = true) (hro : retOk Tryz.f100 (.ret v) = true) : D n_warrantorref11_File [x0] h = some (.ret v, h) :=
  den_val0 (by kernel_rfl) Tryz.func100 (c := ref11_File.c) (by kernel_rfl) (by kernel_rfl) (by kernel_rfl) n hp (by rw [show (pol.ann 100).1 = ref11_File.A by kernel_rfl, show (pol.ann 100).2 = ref11_File.an by kernel_rfl, body_real _ _ (by kernel_rfl)]; exact he) hw hro
noncomputable abbrev ref17_Expr.JD (n : Nat) : Jn (AEnd × H) := ref17_Expr.J D n
theorem ref17_Expr.fx (n : Nat) : ref17_Expr.F D n (ref17_Expr.JD n) := realJ_fix
theorem ref17_Expr.den (n : Nat) {x0 : AV} {h h' : H} {v : AV} (hp : pureL [x0] = true) (he : ref17_Expr.f (ref17_Expr.JD n) x0 [] = some (.ret v, h')) (hw : v.pure = true) (hro : retOk Tryz.f101 (.ret v) = true) : D n_warrantorref17_Expr [x0] h = some (.ret v, h) :=
  den_val0 (by kernel_rfl) Tryz.func101 (c := ref17_Expr.c) (by kernel_rfl) (by kernel_rfl) (by kernel_rfl) n hp (by rw [show (pol.ann 101).1 = ref17_Expr.A by kernel_rfl, show (pol.ann 101).2 = ref17_Expr.an by kernel_rfl, body_real _ _ (by kernel_rfl)]; exact he) hw hro
noncomputable abbrev slices_ContainsFunc_api_Change_api_Change.JD (n : Nat) : Jn (AEnd × H) := slices_ContainsFunc_api_Change_api_Change.J D n
theorem slices_ContainsFunc_api_Change_api_Change.fx (n : Nat) : slices_ContainsFunc_api_Change_api_Change.F D n (slices_ContainsFunc_api_Change_api_Change.JD n) := realJ_fix
theorem slices_ContainsFunc_api_Change_api_Change.den (n : Nat) {x0 x1 : AV} {h h' : H} {v : AV} (hp : pureL [x0, x1] = true) (he : slices_ContainsFunc_api_Change_api_Change.f (slices_ContainsFunc_api_Change_api_Change.JD n) x0 x1 [] = some (.ret v, h')) (hw : v.pure = true) (hro : retOk Tryz.f102 (.ret v) = true) : D n_slices_ContainsFunc_api_Change_api_Change [x0, x1] h = some (.ret v, h) :=
  den_val0 (by kernel_rfl) Tryz.func102 (c := slices_ContainsFunc_api_Change_api_Change.c) (by kernel_rfl) (by kernel_rfl) (by kernel_rfl) n hp (by rw [show (pol.ann 102).1 = slices_ContainsFunc_api_Change_api_Change.A by kernel_rfl, show (pol.ann 102).2 = slices_ContainsFunc_api_Change_api_Change.an by kernel_rfl, body_real _ _ (by kernel_rfl)]; exact he) hw hro
noncomputable abbrev rec_batch_c1.JD (n : Nat) : Jn (AEnd × H) := rec_batch_c1.J D n
theorem rec_batch_c1.fx (n : Nat) : rec_batch_c1.F D n (rec_batch_c1.JD n) := realJ_fix
theorem rec_batch_c1.den (n : Nat) {x0 : AV} {h h' : H} {v : AV} (hp : pureL [x0] = true) (he : rec_batch_c1.f (rec_batch_c1.JD n) x0 [] = some (.ret v, h')) (hw : v.pure = true) (hro : retOk Tryz.f103 (.ret v) = true) : D n_rec_batch_c1 [x0] h = some (.ret v, h) :=
  den_val0 (by kernel_rfl) Tryz.func103 (c := rec_batch_c1.c) (by kernel_rfl) (by kernel_rfl) (by kernel_rfl) n hp (by rw [show (pol.ann 103).1 = rec_batch_c1.A by kernel_rfl, show (pol.ann 103).2 = rec_batch_c1.an by kernel_rfl, body_real _ _ (by kernel_rfl)]; exact he) hw hro
noncomputable abbrev cur_Pen_put.JD (n : Nat) : Jn (AEnd × H) := cur_Pen_put.J D n
theorem cur_Pen_put.fx (n : Nat) : cur_Pen_put.F D n (cur_Pen_put.JD n) := realJ_fix
theorem cur_Pen_put.den (n : Nat) {x0 x1 : AV} {h h' : H} {r : AEnd} (he : cur_Pen_put.f (cur_Pen_put.JD n) x0 x1 h = some (r, h')) (hro : retOk Tryz.f104 r = true) : D n_cur_Pen_put [x0, x1] h = some (r, h') :=
  den_at (by kernel_rfl) Tryz.func104 (c := cur_Pen_put.c) (by kernel_rfl) (ne0 (by kernel_rfl)) (by kernel_rfl) n (by rw [show (pol.ann 104).1 = cur_Pen_put.A by kernel_rfl, show (pol.ann 104).2 = cur_Pen_put.an by kernel_rfl, body_real _ _ (by kernel_rfl)]; exact he) hro
noncomputable abbrev crc_More.JD (n : Nat) : Jn (AEnd × H) := crc_More.J D n
theorem crc_More.fx (n : Nat) : crc_More.F D n (crc_More.JD n) := realJ_fix
theorem crc_More.den (n : Nat) {x0 x1 : AV} {h h' : H} {v : AV} (hp : pureL [x0, x1] = true) (he : crc_More.f (crc_More.JD n) x0 x1 [] = some (.ret v, h')) (hw : v.pure = true) (hro : retOk Tryz.f105 (.ret v) = true) : D n_crc_More [x0, x1] h = some (.ret v, h) :=
  den_val0 (by kernel_rfl) Tryz.func105 (c := crc_More.c) (by kernel_rfl) (by kernel_rfl) (by kernel_rfl) n hp (by rw [show (pol.ann 105).1 = crc_More.A by kernel_rfl, show (pol.ann 105).2 = crc_More.an by kernel_rfl, body_real _ _ (by kernel_rfl)]; exact he) hw hro
noncomputable abbrev cur_ask_string.JD (n : Nat) : Jn (AEnd × H) := cur_ask_string.J D n
theorem cur_ask_string.fx (n : Nat) : cur_ask_string.F D n (cur_ask_string.JD n) := realJ_fix
theorem cur_ask_string.den (n : Nat) {x0 x1 : AV} {h h' : H} {r : AEnd} (he : cur_ask_string.f (cur_ask_string.JD n) x0 x1 h = some (r, h')) (hro : retOk Tryz.f107 r = true) : D n_cur_ask_string [x0, x1] h = some (r, h') :=
  den_at (by kernel_rfl) Tryz.func107 (c := cur_ask_string.c) (by kernel_rfl) (ne0 (by kernel_rfl)) (by kernel_rfl) n (by rw [show (pol.ann 107).1 = cur_ask_string.A by kernel_rfl, show (pol.ann 107).2 = cur_ask_string.an by kernel_rfl, body_real _ _ (by kernel_rfl)]; exact he) hro
noncomputable abbrev cur_Reader_Text_c1.JD (n : Nat) : Jn (AEnd × H) := cur_Reader_Text_c1.J D n
theorem cur_Reader_Text_c1.fx (n : Nat) : cur_Reader_Text_c1.F D n (cur_Reader_Text_c1.JD n) := realJ_fix
theorem cur_Reader_Text_c1.den (n : Nat) {x0 x1 : AV} {h h' : H} {r : AEnd} (he : cur_Reader_Text_c1.f (cur_Reader_Text_c1.JD n) x0 x1 h = some (r, h')) (hro : retOk Tryz.f108 r = true) : D n_cur_Reader_Text_c1 [x0, x1] h = some (r, h') :=
  den_at (by kernel_rfl) Tryz.func108 (c := cur_Reader_Text_c1.c) (by kernel_rfl) (ne0 (by kernel_rfl)) (by kernel_rfl) n (by rw [show (pol.ann 108).1 = cur_Reader_Text_c1.A by kernel_rfl, show (pol.ann 108).2 = cur_Reader_Text_c1.an by kernel_rfl, body_real _ _ (by kernel_rfl)]; exact he) hro
noncomputable abbrev cur_Reader_take.JD (n : Nat) : Jn (AEnd × H) := cur_Reader_take.J D n
theorem cur_Reader_take.fx (n : Nat) : cur_Reader_take.F D n (cur_Reader_take.JD n) := realJ_fix
theorem cur_Reader_take.den (n : Nat) {x0 x1 : AV} {h h' : H} {r : AEnd} (he : cur_Reader_take.f (cur_Reader_take.JD n) x0 x1 h = some (r, h')) (hro : retOk Tryz.f109 r = true) : D n_cur_Reader_take [x0, x1] h = some (r, h') :=
  den_at (by kernel_rfl) Tryz.func109 (c := cur_Reader_take.c) (by kernel_rfl) (ne0 (by kernel_rfl)) (by kernel_rfl) n (by rw [show (pol.ann 109).1 = cur_Reader_take.A by kernel_rfl, show (pol.ann 109).2 = cur_Reader_take.an by kernel_rfl, body_real _ _ (by kernel_rfl)]; exact he) hro
noncomputable abbrev cur_Reader_upto.JD (n : Nat) : Jn (AEnd × H) := cur_Reader_upto.J D n
theorem cur_Reader_upto.fx (n : Nat) : cur_Reader_upto.F D n (cur_Reader_upto.JD n) := realJ_fix
theorem cur_Reader_upto.den (n : Nat) {x0 x1 : AV} {h h' : H} {r : AEnd} (he : cur_Reader_upto.f (cur_Reader_upto.JD n) x0 x1 h = some (r, h')) (hro : retOk Tryz.f110 r = true) : D n_cur_Reader_upto [x0, x1] h = some (r, h') :=
  den_at (by kernel_rfl) Tryz.func110 (c := cur_Reader_upto.c) (by kernel_rfl) (ne0 (by kernel_rfl)) (by kernel_rfl) n (by rw [show (pol.ann 110).1 = cur_Reader_upto.A by kernel_rfl, show (pol.ann 110).2 = cur_Reader_upto.an by kernel_rfl, body_real _ _ (by kernel_rfl)]; exact he) hro
noncomputable abbrev cur_ask_uint32.JD (n : Nat) : Jn (AEnd × H) := cur_ask_uint32.J D n
theorem cur_ask_uint32.fx (n : Nat) : cur_ask_uint32.F D n (cur_ask_uint32.JD n) := realJ_fix
theorem cur_ask_uint32.den (n : Nat) {x0 x1 : AV} {h h' : H} {r : AEnd} (he : cur_ask_uint32.f (cur_ask_uint32.JD n) x0 x1 h = some (r, h')) (hro : retOk Tryz.f111 r = true) : D n_cur_ask_uint32 [x0, x1] h = some (r, h') :=
  den_at (by kernel_rfl) Tryz.func111 (c := cur_ask_uint32.c) (by kernel_rfl) (ne0 (by kernel_rfl)) (by kernel_rfl) n (by rw [show (pol.ann 111).1 = cur_ask_uint32.A by kernel_rfl, show (pol.ann 111).2 = cur_ask_uint32.an by kernel_rfl, body_real _ _ (by kernel_rfl)]; exact he) hro
noncomputable abbrev cur_Reader_word.JD (n : Nat) : Jn (AEnd × H) := cur_Reader_word.J D n
theorem cur_Reader_word.fx (n : Nat) : cur_Reader_word.F D n (cur_Reader_word.JD n) := realJ_fix
theorem cur_Reader_word.den (n : Nat) {x0 : AV} {h h' : H} {r : AEnd} (he : cur_Reader_word.f (cur_Reader_word.JD n) x0 h = some (r, h')) (hro : retOk Tryz.f112 r = true) : D n_cur_Reader_word [x0] h = some (r, h') :=
  den_at (by kernel_rfl) Tryz.func112 (c := cur_Reader_word.c) (by kernel_rfl) (ne0 (by kernel_rfl)) (by kernel_rfl) n (by rw [show (pol.ann 112).1 = cur_Reader_word.A by kernel_rfl, show (pol.ann 112).2 = cur_Reader_word.an by kernel_rfl, body_real _ _ (by kernel_rfl)]; exact he) hro
noncomputable abbrev rec_changes.JD (n : Nat) : Jn (AEnd × H) := rec_changes.J D n
theorem rec_changes.fx (n : Nat) : rec_changes.F D n (rec_changes.JD n) := realJ_fix
theorem rec_changes.den (n : Nat) {x0 : AV} {h h' : H} {v : AV} (hp : pureL [x0] = true) (he : rec_changes.f (rec_changes.JD n) x0 [] = some (.ret v, h')) (hw : v.pure = true) (hro : retOk Tryz.f114 (.ret v) = true) : D n_rec_changes [x0] h = some (.ret v, h) :=
  den_val0 (by kernel_rfl) Tryz.func114 (c := rec_changes.c) (by kernel_rfl) (by kernel_rfl) (by kernel_rfl) n hp (by rw [show (pol.ann 114).1 = rec_changes.A by kernel_rfl, show (pol.ann 114).2 = rec_changes.an by kernel_rfl, body_real _ _ (by kernel_rfl)]; exact he) hw hro
noncomputable abbrev ref02_Reader_Text.JD (n : Nat) : Jn (AEnd × H) := ref02_Reader_Text.J D n
theorem ref02_Reader_Text.fx (n : Nat) : ref02_Reader_Text.F D n (ref02_Reader_Text.JD n) := realJ_fix
theorem ref02_Reader_Text.den (n : Nat) {x0 x1 : AV} {h h' : H} {r : AEnd} (he : ref02_Reader_Text.f (ref02_Reader_Text.JD n) x0 x1 h = some (r, h')) (hro : retOk Tryz.f115 r = true) : D n_warrantorref02_Reader_Text [x0, x1] h = some (r, h') :=
  den_at (by kernel_rfl) Tryz.func115 (c := ref02_Reader_Text.c) (by kernel_rfl) (ne0 (by kernel_rfl)) (by kernel_rfl) n (by rw [show (pol.ann 115).1 = ref02_Reader_Text.A by kernel_rfl, show (pol.ann 115).2 = ref02_Reader_Text.an by kernel_rfl, body_real _ _ (by kernel_rfl)]; exact he) hro
noncomputable abbrev ref02_Reader_Word.JD (n : Nat) : Jn (AEnd × H) := ref02_Reader_Word.J D n
theorem ref02_Reader_Word.fx (n : Nat) : ref02_Reader_Word.F D n (ref02_Reader_Word.JD n) := realJ_fix
theorem ref02_Reader_Word.den (n : Nat) {x0 : AV} {h h' : H} {r : AEnd} (he : ref02_Reader_Word.f (ref02_Reader_Word.JD n) x0 h = some (r, h')) (hro : retOk Tryz.f116 r = true) : D n_warrantorref02_Reader_Word [x0] h = some (r, h') :=
  den_at (by kernel_rfl) Tryz.func116 (c := ref02_Reader_Word.c) (by kernel_rfl) (ne0 (by kernel_rfl)) (by kernel_rfl) n (by rw [show (pol.ann 116).1 = ref02_Reader_Word.A by kernel_rfl, show (pol.ann 116).2 = ref02_Reader_Word.an by kernel_rfl, body_real _ _ (by kernel_rfl)]; exact he) hro
noncomputable abbrev ref01_Put.JD (n : Nat) : Jn (AEnd × H) := ref01_Put.J D n
theorem ref01_Put.fx (n : Nat) : ref01_Put.F D n (ref01_Put.JD n) := realJ_fix
theorem ref01_Put.den (n : Nat) {x0 : AV} {h h' : H} {v : AV} (hp : pureL [x0] = true) (he : ref01_Put.f (ref01_Put.JD n) x0 [] = some (.ret v, h')) (hw : v.pure = true) (hro : retOk Tryz.f117 (.ret v) = true) : D n_warrantorref01_Put [x0] h = some (.ret v, h) :=
  den_val0 (by kernel_rfl) Tryz.func117 (c := ref01_Put.c) (by kernel_rfl) (by kernel_rfl) (by kernel_rfl) n hp (by rw [show (pol.ann 117).1 = ref01_Put.A by kernel_rfl, show (pol.ann 117).2 = ref01_Put.an by kernel_rfl, body_real _ _ (by kernel_rfl)]; exact he) hw hro
noncomputable abbrev ref03_More.JD (n : Nat) : Jn (AEnd × H) := ref03_More.J D n
theorem ref03_More.fx (n : Nat) : ref03_More.F D n (ref03_More.JD n) := realJ_fix
theorem ref03_More.den (n : Nat) {x0 x1 : AV} {h h' : H} {v : AV} (hp : pureL [x0, x1] = true) (he : ref03_More.f (ref03_More.JD n) x0 x1 [] = some (.ret v, h')) (hw : v.pure = true) (hro : retOk Tryz.f118 (.ret v) = true) : D n_warrantorref03_More [x0, x1] h = some (.ret v, h) :=
  den_val0 (by kernel_rfl) Tryz.func118 (c := ref03_More.c) (by kernel_rfl) (by kernel_rfl) (by kernel_rfl) n hp (by rw [show (pol.ann 118).1 = ref03_More.A by kernel_rfl, show (pol.ann 118).2 = ref03_More.an by kernel_rfl, body_real _ _ (by kernel_rfl)]; exact he) hw hro
noncomputable abbrev ref02_Reader_U.JD (n : Nat) : Jn (AEnd × H) := ref02_Reader_U.J D n
theorem ref02_Reader_U.fx (n : Nat) : ref02_Reader_U.F D n (ref02_Reader_U.JD n) := realJ_fix
theorem ref02_Reader_U.den (n : Nat) {x0 : AV} {h h' : H} {r : AEnd} (he : ref02_Reader_U.f (ref02_Reader_U.JD n) x0 h = some (r, h')) (hro : retOk Tryz.f119 r = true) : D n_warrantorref02_Reader_U [x0] h = some (r, h') :=
  den_at (by kernel_rfl) Tryz.func119 (c := ref02_Reader_U.c) (by kernel_rfl) (ne0 (by kernel_rfl)) (by kernel_rfl) n (by rw [show (pol.ann 119).1 = ref02_Reader_U.A by kernel_rfl, show (pol.ann 119).2 = ref02_Reader_U.an by kernel_rfl, body_real _ _ (by kernel_rfl)]; exact he) hro
noncomputable abbrev ref02_Reader_Fail.JD (n : Nat) : Jn (AEnd × H) := ref02_Reader_Fail.J D n
theorem ref02_Reader_Fail.fx (n : Nat) : ref02_Reader_Fail.F D n (ref02_Reader_Fail.JD n) := realJ_fix
theorem ref02_Reader_Fail.den (n : Nat) {x0 x1 : AV} {h h' : H} {r : AEnd} (he : ref02_Reader_Fail.f (ref02_Reader_Fail.JD n) x0 x1 h = some (r, h')) (hro : retOk Tryz.f120 r = true) : D n_warrantorref02_Reader_Fail [x0, x1] h = some (r, h') :=
  den_at (by kernel_rfl) Tryz.func120 (c := ref02_Reader_Fail.c) (by kernel_rfl) (ne0 (by kernel_rfl)) (by kernel_rfl) n (by rw [show (pol.ann 120).1 = ref02_Reader_Fail.A by kernel_rfl, show (pol.ann 120).2 = ref02_Reader_Fail.an by kernel_rfl, body_real _ _ (by kernel_rfl)]; exact he) hro
noncomputable abbrev ref27_finger.JD (n : Nat) : Jn (AEnd × H) := ref27_finger.J D n
theorem ref27_finger.fx (n : Nat) : ref27_finger.F D n (ref27_finger.JD n) := realJ_fix
theorem ref27_finger.den (n : Nat) {x0 : AV} {h h' : H} {r : AEnd} (he : ref27_finger.f (ref27_finger.JD n) x0 h = some (r, h')) (hro : retOk Tryz.f121 r = true) : D n_warrantorref27_finger [x0] h = some (r, h') :=
  den_at (by kernel_rfl) Tryz.func121 (c := ref27_finger.c) (by kernel_rfl) (ne0 (by kernel_rfl)) (by kernel_rfl) n (by rw [show (pol.ann 121).1 = ref27_finger.A by kernel_rfl, show (pol.ann 121).2 = ref27_finger.an by kernel_rfl, body_real _ _ (by kernel_rfl)]; exact he) hro
noncomputable abbrev leb_Put.JD (n : Nat) : Jn (AEnd × H) := leb_Put.J D n
theorem leb_Put.fx (n : Nat) : leb_Put.F D n (leb_Put.JD n) := realJ_fix
theorem leb_Put.den (n : Nat) {x0 : AV} {h h' : H} {v : AV} (hp : pureL [x0] = true) (he : leb_Put.f (leb_Put.JD n) x0 [] = some (.ret v, h')) (hw : v.pure = true) (hro : retOk Tryz.f122 (.ret v) = true) : D n_leb_Put [x0] h = some (.ret v, h) :=
  den_val0 (by kernel_rfl) Tryz.func122 (c := leb_Put.c) (by kernel_rfl) (by kernel_rfl) (by kernel_rfl) n hp (by rw [show (pol.ann 122).1 = leb_Put.A by kernel_rfl, show (pol.ann 122).2 = leb_Put.an by kernel_rfl, body_real _ _ (by kernel_rfl)]; exact he) hw hro
noncomputable abbrev rec_taker_num.JD (n : Nat) : Jn (AEnd × H) := rec_taker_num.J D n
theorem rec_taker_num.fx (n : Nat) : rec_taker_num.F D n (rec_taker_num.JD n) := realJ_fix
theorem rec_taker_num.den (n : Nat) {x0 : AV} {h h' : H} {r : AEnd} (he : rec_taker_num.f (rec_taker_num.JD n) x0 h = some (r, h')) (hro : retOk Tryz.f126 r = true) : D n_rec_taker_num [x0] h = some (r, h') :=
  den_at (by kernel_rfl) Tryz.func126 (c := rec_taker_num.c) (by kernel_rfl) (ne0 (by kernel_rfl)) (by kernel_rfl) n (by rw [show (pol.ann 126).1 = rec_taker_num.A by kernel_rfl, show (pol.ann 126).2 = rec_taker_num.an by kernel_rfl, body_real _ _ (by kernel_rfl)]; exact he) hro
noncomputable abbrev rec_taker_text.JD (n : Nat) : Jn (AEnd × H) := rec_taker_text.J D n
theorem rec_taker_text.fx (n : Nat) : rec_taker_text.F D n (rec_taker_text.JD n) := realJ_fix
theorem rec_taker_text.den (n : Nat) {x0 : AV} {h h' : H} {r : AEnd} (he : rec_taker_text.f (rec_taker_text.JD n) x0 h = some (r, h')) (hro : retOk Tryz.f127 r = true) : D n_rec_taker_text [x0] h = some (r, h') :=
  den_at (by kernel_rfl) Tryz.func127 (c := rec_taker_text.c) (by kernel_rfl) (ne0 (by kernel_rfl)) (by kernel_rfl) n (by rw [show (pol.ann 127).1 = rec_taker_text.A by kernel_rfl, show (pol.ann 127).2 = rec_taker_text.an by kernel_rfl, body_real _ _ (by kernel_rfl)]; exact he) hro
noncomputable abbrev alarm_expr_c1.JD (n : Nat) : Jn (AEnd × H) := alarm_expr_c1.J D n
theorem alarm_expr_c1.fx (n : Nat) : alarm_expr_c1.F D n (alarm_expr_c1.JD n) := realJ_fix
theorem alarm_expr_c1.den (n : Nat) {x0 : AV} {h h' : H} {v : AV} (hp : pureL [x0] = true) (he : alarm_expr_c1.f (alarm_expr_c1.JD n) x0 [] = some (.ret v, h')) (hw : v.pure = true) (hro : retOk Tryz.f128 (.ret v) = true) : D n_alarm_expr_c1 [x0] h = some (.ret v, h) :=
  den_val0 (by kernel_rfl) Tryz.func128 (c := alarm_expr_c1.c) (by kernel_rfl) (by kernel_rfl) (by kernel_rfl) n hp (by rw [show (pol.ann 128).1 = alarm_expr_c1.A by kernel_rfl, show (pol.ann 128).2 = alarm_expr_c1.an by kernel_rfl, body_real _ _ (by kernel_rfl)]; exact he) hw hro
noncomputable abbrev strings_ContainsFunc.JD (n : Nat) : Jn (AEnd × H) := strings_ContainsFunc.J D n
theorem strings_ContainsFunc.fx (n : Nat) : strings_ContainsFunc.F D n (strings_ContainsFunc.JD n) := realJ_fix
theorem strings_ContainsFunc.den (n : Nat) {x0 x1 : AV} {h h' : H} {v : AV} (hp : pureL [x0, x1] = true) (he : strings_ContainsFunc.f (strings_ContainsFunc.JD n) x0 x1 [] = some (.ret v, h')) (hw : v.pure = true) (hro : retOk Tryz.f129 (.ret v) = true) : D n_strings_ContainsFunc [x0, x1] h = some (.ret v, h) :=
  den_val0 (by kernel_rfl) Tryz.func129 (c := strings_ContainsFunc.c) (by kernel_rfl) (by kernel_rfl) (by kernel_rfl) n hp (by rw [show (pol.ann 129).1 = strings_ContainsFunc.A by kernel_rfl, show (pol.ann 129).2 = strings_ContainsFunc.an by kernel_rfl, body_real _ _ (by kernel_rfl)]; exact he) hw hro
noncomputable abbrev prog_Check_c1.JD (n : Nat) : Jn (AEnd × H) := prog_Check_c1.J D n
theorem prog_Check_c1.fx (n : Nat) : prog_Check_c1.F D n (prog_Check_c1.JD n) := realJ_fix
theorem prog_Check_c1.den (n : Nat) {x0 x1 x2 : AV} {h h' : H} {r : AEnd} (he : prog_Check_c1.f (prog_Check_c1.JD n) x0 x1 x2 h = some (r, h')) (hro : retOk Tryz.f130 r = true) : D n_prog_Check_c1 [x0, x1, x2] h = some (r, h') :=
  den_at (by kernel_rfl) Tryz.func130 (c := prog_Check_c1.c) (by kernel_rfl) (ne0 (by kernel_rfl)) (by kernel_rfl) n (by rw [show (pol.ann 130).1 = prog_Check_c1.A by kernel_rfl, show (pol.ann 130).2 = prog_Check_c1.an by kernel_rfl, body_real _ _ (by kernel_rfl)]; exact he) hro
noncomputable abbrev prog_some.JD (n : Nat) : Jn (AEnd × H) := prog_some.J D n
theorem prog_some.fx (n : Nat) : prog_some.F D n (prog_some.JD n) := realJ_fix
theorem prog_some.den (n : Nat) {x0 x1 : AV} {h h' : H} {v : AV} (hp : pureL [x0, x1] = true) (he : prog_some.f (prog_some.JD n) x0 x1 [] = some (.ret v, h')) (hw : v.pure = true) (hro : retOk Tryz.f131 (.ret v) = true) : D n_prog_some [x0, x1] h = some (.ret v, h) :=
  den_val0 (by kernel_rfl) Tryz.func131 (c := prog_some.c) (by kernel_rfl) (by kernel_rfl) (by kernel_rfl) n hp (by rw [show (pol.ann 131).1 = prog_some.A by kernel_rfl, show (pol.ann 131).2 = prog_some.an by kernel_rfl, body_real _ _ (by kernel_rfl)]; exact he) hw hro
noncomputable abbrev prog_Right.JD (n : Nat) : Jn (AEnd × H) := prog_Right.J D n
theorem prog_Right.fx (n : Nat) : prog_Right.F D n (prog_Right.JD n) := realJ_fix
theorem prog_Right.den (n : Nat) {x0 x1 : AV} {h h' : H} {v : AV} (hp : pureL [x0, x1] = true) (he : prog_Right.f (prog_Right.JD n) x0 x1 [] = some (.ret v, h')) (hw : v.pure = true) (hro : retOk Tryz.f132 (.ret v) = true) : D n_prog_Right [x0, x1] h = some (.ret v, h) :=
  den_val0 (by kernel_rfl) Tryz.func132 (c := prog_Right.c) (by kernel_rfl) (by kernel_rfl) (by kernel_rfl) n hp (by rw [show (pol.ann 132).1 = prog_Right.A by kernel_rfl, show (pol.ann 132).2 = prog_Right.an by kernel_rfl, body_real _ _ (by kernel_rfl)]; exact he) hw hro
noncomputable abbrev prog_name.JD (n : Nat) : Jn (AEnd × H) := prog_name.J D n
theorem prog_name.fx (n : Nat) : prog_name.F D n (prog_name.JD n) := realJ_fix
theorem prog_name.den (n : Nat) {x0 : AV} {h h' : H} {v : AV} (hp : pureL [x0] = true) (he : prog_name.f (prog_name.JD n) x0 [] = some (.ret v, h')) (hw : v.pure = true) (hro : retOk Tryz.f133 (.ret v) = true) : D n_prog_name [x0] h = some (.ret v, h) :=
  den_val0 (by kernel_rfl) Tryz.func133 (c := prog_name.c) (by kernel_rfl) (by kernel_rfl) (by kernel_rfl) n hp (by rw [show (pol.ann 133).1 = prog_name.A by kernel_rfl, show (pol.ann 133).2 = prog_name.an by kernel_rfl, body_real _ _ (by kernel_rfl)]; exact he) hw hro
noncomputable abbrev prog_vars.JD (n : Nat) : Jn (AEnd × H) := prog_vars.J D n
theorem prog_vars.fx (n : Nat) : prog_vars.F D n (prog_vars.JD n) := realJ_fix
theorem prog_vars.den (n : Nat) {x0 : AV} {h h' : H} {v : AV} (hp : pureL [x0] = true) (he : prog_vars.f (prog_vars.JD n) x0 [] = some (.ret v, h')) (hw : v.pure = true) (hro : retOk Tryz.f134 (.ret v) = true) : D n_prog_vars [x0] h = some (.ret v, h) :=
  den_val0 (by kernel_rfl) Tryz.func134 (c := prog_vars.c) (by kernel_rfl) (by kernel_rfl) (by kernel_rfl) n hp (by rw [show (pol.ann 134).1 = prog_vars.A by kernel_rfl, show (pol.ann 134).2 = prog_vars.an by kernel_rfl, body_real _ _ (by kernel_rfl)]; exact he) hw hro
noncomputable abbrev prog_one.JD (n : Nat) : Jn (AEnd × H) := prog_one.J D n
theorem prog_one.fx (n : Nat) : prog_one.F D n (prog_one.JD n) := realJ_fix
theorem prog_one.den (n : Nat) {x0 x1 : AV} {h h' : H} {v : AV} (hp : pureL [x0, x1] = true) (he : prog_one.f (prog_one.JD n) x0 x1 [] = some (.ret v, h')) (hw : v.pure = true) (hro : retOk Tryz.f135 (.ret v) = true) : D n_prog_one [x0, x1] h = some (.ret v, h) :=
  den_val0 (by kernel_rfl) Tryz.func135 (c := prog_one.c) (by kernel_rfl) (by kernel_rfl) (by kernel_rfl) n hp (by rw [show (pol.ann 135).1 = prog_one.A by kernel_rfl, show (pol.ann 135).2 = prog_one.an by kernel_rfl, body_real _ _ (by kernel_rfl)]; exact he) hw hro
noncomputable abbrev slices_ContainsFunc_api_Spot_api_Spot.JD (n : Nat) : Jn (AEnd × H) := slices_ContainsFunc_api_Spot_api_Spot.J D n
theorem slices_ContainsFunc_api_Spot_api_Spot.fx (n : Nat) : slices_ContainsFunc_api_Spot_api_Spot.F D n (slices_ContainsFunc_api_Spot_api_Spot.JD n) := realJ_fix
theorem slices_ContainsFunc_api_Spot_api_Spot.den (n : Nat) {x0 x1 : AV} {h h' : H} {v : AV} (hp : pureL [x0, x1] = true) (he : slices_ContainsFunc_api_Spot_api_Spot.f (slices_ContainsFunc_api_Spot_api_Spot.JD n) x0 x1 [] = some (.ret v, h')) (hw : v.pure = true) (hro : retOk Tryz.f136 (.ret v) = true) : D n_slices_ContainsFunc_api_Spot_api_Spot [x0, x1] h = some (.ret v, h) :=
  den_val0 (by kernel_rfl) Tryz.func136 (c := slices_ContainsFunc_api_Spot_api_Spot.c) (by kernel_rfl) (by kernel_rfl) (by kernel_rfl) n hp (by rw [show (pol.ann 136).1 = slices_ContainsFunc_api_Spot_api_Spot.A by kernel_rfl, show (pol.ann 136).2 = slices_ContainsFunc_api_Spot_api_Spot.an by kernel_rfl, body_real _ _ (by kernel_rfl)]; exact he) hw hro
noncomputable abbrev prog_Check_c2.JD (n : Nat) : Jn (AEnd × H) := prog_Check_c2.J D n
theorem prog_Check_c2.fx (n : Nat) : prog_Check_c2.F D n (prog_Check_c2.JD n) := realJ_fix
theorem prog_Check_c2.den (n : Nat) {x0 : AV} {h h' : H} {v : AV} (hp : pureL [x0] = true) (he : prog_Check_c2.f (prog_Check_c2.JD n) x0 [] = some (.ret v, h')) (hw : v.pure = true) (hro : retOk Tryz.f137 (.ret v) = true) : D n_prog_Check_c2 [x0] h = some (.ret v, h) :=
  den_val0 (by kernel_rfl) Tryz.func137 (c := prog_Check_c2.c) (by kernel_rfl) (by kernel_rfl) (by kernel_rfl) n hp (by rw [show (pol.ann 137).1 = prog_Check_c2.A by kernel_rfl, show (pol.ann 137).2 = prog_Check_c2.an by kernel_rfl, body_real _ _ (by kernel_rfl)]; exact he) hw hro
noncomputable abbrev prog_spot.JD (n : Nat) : Jn (AEnd × H) := prog_spot.J D n
theorem prog_spot.fx (n : Nat) : prog_spot.F D n (prog_spot.JD n) := realJ_fix
theorem prog_spot.den (n : Nat) {x0 : AV} {h h' : H} {v : AV} (hp : pureL [x0] = true) (he : prog_spot.f (prog_spot.JD n) x0 [] = some (.ret v, h')) (hw : v.pure = true) (hro : retOk Tryz.f138 (.ret v) = true) : D n_prog_spot [x0] h = some (.ret v, h) :=
  den_val0 (by kernel_rfl) Tryz.func138 (c := prog_spot.c) (by kernel_rfl) (by kernel_rfl) (by kernel_rfl) n hp (by rw [show (pol.ann 138).1 = prog_spot.A by kernel_rfl, show (pol.ann 138).2 = prog_spot.an by kernel_rfl, body_real _ _ (by kernel_rfl)]; exact he) hw hro
noncomputable abbrev slices_ContainsFunc_api_Edge_api_Edge.JD (n : Nat) : Jn (AEnd × H) := slices_ContainsFunc_api_Edge_api_Edge.J D n
theorem slices_ContainsFunc_api_Edge_api_Edge.fx (n : Nat) : slices_ContainsFunc_api_Edge_api_Edge.F D n (slices_ContainsFunc_api_Edge_api_Edge.JD n) := realJ_fix
theorem slices_ContainsFunc_api_Edge_api_Edge.den (n : Nat) {x0 x1 : AV} {h h' : H} {r : AEnd} (he : slices_ContainsFunc_api_Edge_api_Edge.f (slices_ContainsFunc_api_Edge_api_Edge.JD n) x0 x1 h = some (r, h')) (hro : retOk Tryz.f139 r = true) : D n_slices_ContainsFunc_api_Edge_api_Edge [x0, x1] h = some (r, h') :=
  den_at (by kernel_rfl) Tryz.func139 (c := slices_ContainsFunc_api_Edge_api_Edge.c) (by kernel_rfl) (ne0 (by kernel_rfl)) (by kernel_rfl) n (by rw [show (pol.ann 139).1 = slices_ContainsFunc_api_Edge_api_Edge.A by kernel_rfl, show (pol.ann 139).2 = slices_ContainsFunc_api_Edge_api_Edge.an by kernel_rfl, body_real _ _ (by kernel_rfl)]; exact he) hro
noncomputable abbrev result_note.JD (n : Nat) : Jn (AEnd × H) := result_note.J D n
theorem result_note.fx (n : Nat) : result_note.F D n (result_note.JD n) := realJ_fix
theorem result_note.den (n : Nat) {x0 : AV} {h h' : H} {v : AV} (hp : pureL [x0] = true) (he : result_note.f (result_note.JD n) x0 [] = some (.ret v, h')) (hw : v.pure = true) (hro : retOk Tryz.f140 (.ret v) = true) : D n_result_note [x0] h = some (.ret v, h) :=
  den_val0 (by kernel_rfl) Tryz.func140 (c := result_note.c) (by kernel_rfl) (by kernel_rfl) (by kernel_rfl) n hp (by rw [show (pol.ann 140).1 = result_note.A by kernel_rfl, show (pol.ann 140).2 = result_note.an by kernel_rfl, body_real _ _ (by kernel_rfl)]; exact he) hw hro
noncomputable abbrev ref11_more.JD (n : Nat) : Jn (AEnd × H) := ref11_more.J D n
theorem ref11_more.fx (n : Nat) : ref11_more.F D n (ref11_more.JD n) := realJ_fix
theorem ref11_more.den (n : Nat) {x0 : AV} {h h' : H} {v : AV} (hp : pureL [x0] = true) (he : ref11_more.f (ref11_more.JD n) x0 [] = some (.ret v, h')) (hw : v.pure = true) (hro : retOk Tryz.f141 (.ret v) = true) : D n_warrantorref11_more [x0] h = some (.ret v, h) :=
  den_val0 (by kernel_rfl) Tryz.func141 (c := ref11_more.c) (by kernel_rfl) (by kernel_rfl) (by kernel_rfl) n hp (by rw [show (pol.ann 141).1 = ref11_more.A by kernel_rfl, show (pol.ann 141).2 = ref11_more.an by kernel_rfl, body_real _ _ (by kernel_rfl)]; exact he) hw hro
noncomputable abbrev ref11_letter.JD (n : Nat) : Jn (AEnd × H) := ref11_letter.J D n
theorem ref11_letter.fx (n : Nat) : ref11_letter.F D n (ref11_letter.JD n) := realJ_fix
theorem ref11_letter.den (n : Nat) {x0 : AV} {h h' : H} {v : AV} (hp : pureL [x0] = true) (he : ref11_letter.f (ref11_letter.JD n) x0 [] = some (.ret v, h')) (hw : v.pure = true) (hro : retOk Tryz.f142 (.ret v) = true) : D n_warrantorref11_letter [x0] h = some (.ret v, h) :=
  den_val0 (by kernel_rfl) Tryz.func142 (c := ref11_letter.c) (by kernel_rfl) (by kernel_rfl) (by kernel_rfl) n hp (by rw [show (pol.ann 142).1 = ref11_letter.A by kernel_rfl, show (pol.ann 142).2 = ref11_letter.an by kernel_rfl, body_real _ _ (by kernel_rfl)]; exact he) hw hro
noncomputable abbrev slices_IndexFunc_api_Change_api_Change.JD (n : Nat) : Jn (AEnd × H) := slices_IndexFunc_api_Change_api_Change.J D n
theorem slices_IndexFunc_api_Change_api_Change.fx (n : Nat) : slices_IndexFunc_api_Change_api_Change.F D n (slices_IndexFunc_api_Change_api_Change.JD n) := realJ_fix
theorem slices_IndexFunc_api_Change_api_Change.den (n : Nat) {x0 x1 : AV} {h h' : H} {v : AV} (hp : pureL [x0, x1] = true) (he : slices_IndexFunc_api_Change_api_Change.f (slices_IndexFunc_api_Change_api_Change.JD n) x0 x1 [] = some (.ret v, h')) (hw : v.pure = true) (hro : retOk Tryz.f143 (.ret v) = true) : D n_slices_IndexFunc_api_Change_api_Change [x0, x1] h = some (.ret v, h) :=
  den_val0 (by kernel_rfl) Tryz.func143 (c := slices_IndexFunc_api_Change_api_Change.c) (by kernel_rfl) (by kernel_rfl) (by kernel_rfl) n hp (by rw [show (pol.ann 143).1 = slices_IndexFunc_api_Change_api_Change.A by kernel_rfl, show (pol.ann 143).2 = slices_IndexFunc_api_Change_api_Change.an by kernel_rfl, body_real _ _ (by kernel_rfl)]; exact he) hw hro
noncomputable abbrev crc_bits.JD (n : Nat) : Jn (AEnd × H) := crc_bits.J D n
theorem crc_bits.fx (n : Nat) : crc_bits.F D n (crc_bits.JD n) := realJ_fix
theorem crc_bits.den (n : Nat) {x0 x1 : AV} {h h' : H} {v : AV} (hp : pureL [x0, x1] = true) (he : crc_bits.f (crc_bits.JD n) x0 x1 [] = some (.ret v, h')) (hw : v.pure = true) (hro : retOk Tryz.f144 (.ret v) = true) : D n_crc_bits [x0, x1] h = some (.ret v, h) :=
  den_val0 (by kernel_rfl) Tryz.func144 (c := crc_bits.c) (by kernel_rfl) (by kernel_rfl) (by kernel_rfl) n hp (by rw [show (pol.ann 144).1 = crc_bits.A by kernel_rfl, show (pol.ann 144).2 = crc_bits.an by kernel_rfl, body_real _ _ (by kernel_rfl)]; exact he) hw hro
noncomputable abbrev cur_Reader_number.JD (n : Nat) : Jn (AEnd × H) := cur_Reader_number.J D n
theorem cur_Reader_number.fx (n : Nat) : cur_Reader_number.F D n (cur_Reader_number.JD n) := realJ_fix
theorem cur_Reader_number.den (n : Nat) {x0 : AV} {h h' : H} {r : AEnd} (he : cur_Reader_number.f (cur_Reader_number.JD n) x0 h = some (r, h')) (hro : retOk Tryz.f146 r = true) : D n_cur_Reader_number [x0] h = some (r, h') :=
  den_at (by kernel_rfl) Tryz.func146 (c := cur_Reader_number.c) (by kernel_rfl) (ne0 (by kernel_rfl)) (by kernel_rfl) n (by rw [show (pol.ann 146).1 = cur_Reader_number.A by kernel_rfl, show (pol.ann 146).2 = cur_Reader_number.an by kernel_rfl, body_real _ _ (by kernel_rfl)]; exact he) hro
noncomputable abbrev cur_Reader_Count.JD (n : Nat) : Jn (AEnd × H) := cur_Reader_Count.J D n
theorem cur_Reader_Count.fx (n : Nat) : cur_Reader_Count.F D n (cur_Reader_Count.JD n) := realJ_fix
theorem cur_Reader_Count.den (n : Nat) {x0 x1 : AV} {h h' : H} {r : AEnd} (he : cur_Reader_Count.f (cur_Reader_Count.JD n) x0 x1 h = some (r, h')) (hro : retOk Tryz.f148 r = true) : D n_cur_Reader_Count [x0, x1] h = some (r, h') :=
  den_at (by kernel_rfl) Tryz.func148 (c := cur_Reader_Count.c) (by kernel_rfl) (ne0 (by kernel_rfl)) (by kernel_rfl) n (by rw [show (pol.ann 148).1 = cur_Reader_Count.A by kernel_rfl, show (pol.ann 148).2 = cur_Reader_Count.an by kernel_rfl, body_real _ _ (by kernel_rfl)]; exact he) hro
noncomputable abbrev rec_must.JD (n : Nat) : Jn (AEnd × H) := rec_must.J D n
theorem rec_must.fx (n : Nat) : rec_must.F D n (rec_must.JD n) := realJ_fix
theorem rec_must.den (n : Nat) {x0 : AV} {h h' : H} {v : AV} (hp : pureL [x0] = true) (he : rec_must.f (rec_must.JD n) x0 [] = some (.ret v, h')) (hw : v.pure = true) (hro : retOk Tryz.f149 (.ret v) = true) : D n_rec_must [x0] h = some (.ret v, h) :=
  den_val0 (by kernel_rfl) Tryz.func149 (c := rec_must.c) (by kernel_rfl) (by kernel_rfl) (by kernel_rfl) n hp (by rw [show (pol.ann 149).1 = rec_must.A by kernel_rfl, show (pol.ann 149).2 = rec_must.an by kernel_rfl, body_real _ _ (by kernel_rfl)]; exact he) hw hro
noncomputable abbrev cur_Reader_End.JD (n : Nat) : Jn (AEnd × H) := cur_Reader_End.J D n
theorem cur_Reader_End.fx (n : Nat) : cur_Reader_End.F D n (cur_Reader_End.JD n) := realJ_fix
theorem cur_Reader_End.den (n : Nat) {x0 : AV} {h h' : H} {r : AEnd} (he : cur_Reader_End.f (cur_Reader_End.JD n) x0 h = some (r, h')) (hro : retOk Tryz.f150 r = true) : D n_cur_Reader_End [x0] h = some (r, h') :=
  den_at (by kernel_rfl) Tryz.func150 (c := cur_Reader_End.c) (by kernel_rfl) (ne0 (by kernel_rfl)) (by kernel_rfl) n (by rw [show (pol.ann 150).1 = cur_Reader_End.A by kernel_rfl, show (pol.ann 150).2 = cur_Reader_End.an by kernel_rfl, body_real _ _ (by kernel_rfl)]; exact he) hro
noncomputable abbrev slices_Equal_byte_byte.JD (n : Nat) : Jn (AEnd × H) := slices_Equal_byte_byte.J D n
theorem slices_Equal_byte_byte.fx (n : Nat) : slices_Equal_byte_byte.F D n (slices_Equal_byte_byte.JD n) := realJ_fix
theorem slices_Equal_byte_byte.den (n : Nat) {x0 x1 : AV} {h h' : H} {v : AV} (hp : pureL [x0, x1] = true) (he : slices_Equal_byte_byte.f (slices_Equal_byte_byte.JD n) x0 x1 [] = some (.ret v, h')) (hw : v.pure = true) (hro : retOk Tryz.f151 (.ret v) = true) : D n_slices_Equal_byte_byte [x0, x1] h = some (.ret v, h) :=
  den_val0 (by kernel_rfl) Tryz.func151 (c := slices_Equal_byte_byte.c) (by kernel_rfl) (by kernel_rfl) (by kernel_rfl) n hp (by rw [show (pol.ann 151).1 = slices_Equal_byte_byte.A by kernel_rfl, show (pol.ann 151).2 = slices_Equal_byte_byte.an by kernel_rfl, body_real _ _ (by kernel_rfl)]; exact he) hw hro
noncomputable abbrev ref02_Reader_take.JD (n : Nat) : Jn (AEnd × H) := ref02_Reader_take.J D n
theorem ref02_Reader_take.fx (n : Nat) : ref02_Reader_take.F D n (ref02_Reader_take.JD n) := realJ_fix
theorem ref02_Reader_take.den (n : Nat) {x0 x1 : AV} {h h' : H} {r : AEnd} (he : ref02_Reader_take.f (ref02_Reader_take.JD n) x0 x1 h = some (r, h')) (hro : retOk Tryz.f152 r = true) : D n_warrantorref02_Reader_take [x0, x1] h = some (r, h') :=
  den_at (by kernel_rfl) Tryz.func152 (c := ref02_Reader_take.c) (by kernel_rfl) (ne0 (by kernel_rfl)) (by kernel_rfl) n (by rw [show (pol.ann 152).1 = ref02_Reader_take.A by kernel_rfl, show (pol.ann 152).2 = ref02_Reader_take.an by kernel_rfl, body_real _ _ (by kernel_rfl)]; exact he) hro
noncomputable abbrev ref03_take.JD (n : Nat) : Jn (AEnd × H) := ref03_take.J D n
theorem ref03_take.fx (n : Nat) : ref03_take.F D n (ref03_take.JD n) := realJ_fix
theorem ref03_take.den (n : Nat) {x0 x1 : AV} {h h' : H} {v : AV} (hp : pureL [x0, x1] = true) (he : ref03_take.f (ref03_take.JD n) x0 x1 [] = some (.ret v, h')) (hw : v.pure = true) (hro : retOk Tryz.f153 (.ret v) = true) : D n_warrantorref03_take [x0, x1] h = some (.ret v, h) :=
  den_val0 (by kernel_rfl) Tryz.func153 (c := ref03_take.c) (by kernel_rfl) (by kernel_rfl) (by kernel_rfl) n hp (by rw [show (pol.ann 153).1 = ref03_take.A by kernel_rfl, show (pol.ann 153).2 = ref03_take.an by kernel_rfl, body_real _ _ (by kernel_rfl)]; exact he) hw hro
noncomputable abbrev ref01_Get.JD (n : Nat) : Jn (AEnd × H) := ref01_Get.J D n
theorem ref01_Get.fx (n : Nat) : ref01_Get.F D n (ref01_Get.JD n) := realJ_fix
theorem ref01_Get.den (n : Nat) {x0 : AV} {h h' : H} {v : AV} (hp : pureL [x0] = true) (he : ref01_Get.f (ref01_Get.JD n) x0 [] = some (.ret v, h')) (hw : v.pure = true) (hro : retOk Tryz.f154 (.ret v) = true) : D n_warrantorref01_Get [x0] h = some (.ret v, h) :=
  den_val0 (by kernel_rfl) Tryz.func154 (c := ref01_Get.c) (by kernel_rfl) (by kernel_rfl) (by kernel_rfl) n hp (by rw [show (pol.ann 154).1 = ref01_Get.A by kernel_rfl, show (pol.ann 154).2 = ref01_Get.an by kernel_rfl, body_real _ _ (by kernel_rfl)]; exact he) hw hro
noncomputable abbrev strings_IndexFunc.JD (n : Nat) : Jn (AEnd × H) := strings_IndexFunc.J D n
theorem strings_IndexFunc.fx (n : Nat) : strings_IndexFunc.F D n (strings_IndexFunc.JD n) := realJ_fix
theorem strings_IndexFunc.den (n : Nat) {x0 x1 : AV} {h h' : H} {v : AV} (hp : pureL [x0, x1] = true) (he : strings_IndexFunc.f (strings_IndexFunc.JD n) x0 x1 [] = some (.ret v, h')) (hw : v.pure = true) (hro : retOk Tryz.f155 (.ret v) = true) : D n_strings_IndexFunc [x0, x1] h = some (.ret v, h) :=
  den_val0 (by kernel_rfl) Tryz.func155 (c := strings_IndexFunc.c) (by kernel_rfl) (by kernel_rfl) (by kernel_rfl) n hp (by rw [show (pol.ann 155).1 = strings_IndexFunc.A by kernel_rfl, show (pol.ann 155).2 = strings_IndexFunc.an by kernel_rfl, body_real _ _ (by kernel_rfl)]; exact he) hw hro
noncomputable abbrev prog_kinds.JD (n : Nat) : Jn (AEnd × H) := prog_kinds.J D n
theorem prog_kinds.fx (n : Nat) : prog_kinds.F D n (prog_kinds.JD n) := realJ_fix
theorem prog_kinds.den (n : Nat) {h h' : H} {v : AV} (hp : pureL [] = true) (he : prog_kinds.f (prog_kinds.JD n)  [] = some (.ret v, h')) (hw : v.pure = true) (hro : retOk Tryz.f156 (.ret v) = true) : D n_prog_kinds [] h = some (.ret v, h) :=
  den_val0 (by kernel_rfl) Tryz.func156 (c := prog_kinds.c) (by kernel_rfl) (by kernel_rfl) (by kernel_rfl) n hp (by rw [show (pol.ann 156).1 = prog_kinds.A by kernel_rfl, show (pol.ann 156).2 = prog_kinds.an by kernel_rfl, body_real _ _ (by kernel_rfl)]; exact he) hw hro
noncomputable abbrev prog_named.JD (n : Nat) : Jn (AEnd × H) := prog_named.J D n
theorem prog_named.fx (n : Nat) : prog_named.F D n (prog_named.JD n) := realJ_fix
theorem prog_named.den (n : Nat) {x0 x1 x2 : AV} {h h' : H} {v : AV} (hp : pureL [x0, x1, x2] = true) (he : prog_named.f (prog_named.JD n) x0 x1 x2 [] = some (.ret v, h')) (hw : v.pure = true) (hro : retOk Tryz.f157 (.ret v) = true) : D n_prog_named [x0, x1, x2] h = some (.ret v, h) :=
  den_val0 (by kernel_rfl) Tryz.func157 (c := prog_named.c) (by kernel_rfl) (by kernel_rfl) (by kernel_rfl) n hp (by rw [show (pol.ann 157).1 = prog_named.A by kernel_rfl, show (pol.ann 157).2 = prog_named.an by kernel_rfl, body_real _ _ (by kernel_rfl)]; exact he) hw hro
noncomputable abbrev prog_plain.JD (n : Nat) : Jn (AEnd × H) := prog_plain.J D n
theorem prog_plain.fx (n : Nat) : prog_plain.F D n (prog_plain.JD n) := realJ_fix
theorem prog_plain.den (n : Nat) {x0 : AV} {h h' : H} {v : AV} (hp : pureL [x0] = true) (he : prog_plain.f (prog_plain.JD n) x0 [] = some (.ret v, h')) (hw : v.pure = true) (hro : retOk Tryz.f158 (.ret v) = true) : D n_prog_plain [x0] h = some (.ret v, h) :=
  den_val0 (by kernel_rfl) Tryz.func158 (c := prog_plain.c) (by kernel_rfl) (by kernel_rfl) (by kernel_rfl) n hp (by rw [show (pol.ann 158).1 = prog_plain.A by kernel_rfl, show (pol.ann 158).2 = prog_plain.an by kernel_rfl, body_real _ _ (by kernel_rfl)]; exact he) hw hro
noncomputable abbrev slices_IndexFunc_api_Spot_api_Spot.JD (n : Nat) : Jn (AEnd × H) := slices_IndexFunc_api_Spot_api_Spot.J D n
theorem slices_IndexFunc_api_Spot_api_Spot.fx (n : Nat) : slices_IndexFunc_api_Spot_api_Spot.F D n (slices_IndexFunc_api_Spot_api_Spot.JD n) := realJ_fix
theorem slices_IndexFunc_api_Spot_api_Spot.den (n : Nat) {x0 x1 : AV} {h h' : H} {v : AV} (hp : pureL [x0, x1] = true) (he : slices_IndexFunc_api_Spot_api_Spot.f (slices_IndexFunc_api_Spot_api_Spot.JD n) x0 x1 [] = some (.ret v, h')) (hw : v.pure = true) (hro : retOk Tryz.f159 (.ret v) = true) : D n_slices_IndexFunc_api_Spot_api_Spot [x0, x1] h = some (.ret v, h) :=
  den_val0 (by kernel_rfl) Tryz.func159 (c := slices_IndexFunc_api_Spot_api_Spot.c) (by kernel_rfl) (by kernel_rfl) (by kernel_rfl) n hp (by rw [show (pol.ann 159).1 = slices_IndexFunc_api_Spot_api_Spot.A by kernel_rfl, show (pol.ann 159).2 = slices_IndexFunc_api_Spot_api_Spot.an by kernel_rfl, body_real _ _ (by kernel_rfl)]; exact he) hw hro
noncomputable abbrev prog_path.JD (n : Nat) : Jn (AEnd × H) := prog_path.J D n
theorem prog_path.fx (n : Nat) : prog_path.F D n (prog_path.JD n) := realJ_fix
theorem prog_path.den (n : Nat) {x0 : AV} {h h' : H} {v : AV} (hp : pureL [x0] = true) (he : prog_path.f (prog_path.JD n) x0 [] = some (.ret v, h')) (hw : v.pure = true) (hro : retOk Tryz.f160 (.ret v) = true) : D n_prog_path [x0] h = some (.ret v, h) :=
  den_val0 (by kernel_rfl) Tryz.func160 (c := prog_path.c) (by kernel_rfl) (by kernel_rfl) (by kernel_rfl) n hp (by rw [show (pol.ann 160).1 = prog_path.A by kernel_rfl, show (pol.ann 160).2 = prog_path.an by kernel_rfl, body_real _ _ (by kernel_rfl)]; exact he) hw hro
noncomputable abbrev slices_IndexFunc_api_Edge_api_Edge.JD (n : Nat) : Jn (AEnd × H) := slices_IndexFunc_api_Edge_api_Edge.J D n
theorem slices_IndexFunc_api_Edge_api_Edge.fx (n : Nat) : slices_IndexFunc_api_Edge_api_Edge.F D n (slices_IndexFunc_api_Edge_api_Edge.JD n) := realJ_fix
theorem slices_IndexFunc_api_Edge_api_Edge.den (n : Nat) {x0 x1 : AV} {h h' : H} {r : AEnd} (he : slices_IndexFunc_api_Edge_api_Edge.f (slices_IndexFunc_api_Edge_api_Edge.JD n) x0 x1 h = some (r, h')) (hro : retOk Tryz.f161 r = true) : D n_slices_IndexFunc_api_Edge_api_Edge [x0, x1] h = some (r, h') :=
  den_at (by kernel_rfl) Tryz.func161 (c := slices_IndexFunc_api_Edge_api_Edge.c) (by kernel_rfl) (ne0 (by kernel_rfl)) (by kernel_rfl) n (by rw [show (pol.ann 161).1 = slices_IndexFunc_api_Edge_api_Edge.A by kernel_rfl, show (pol.ann 161).2 = slices_IndexFunc_api_Edge_api_Edge.an by kernel_rfl, body_real _ _ (by kernel_rfl)]; exact he) hro
noncomputable abbrev result_note_c1.JD (n : Nat) : Jn (AEnd × H) := result_note_c1.J D n
theorem result_note_c1.fx (n : Nat) : result_note_c1.F D n (result_note_c1.JD n) := realJ_fix
theorem result_note_c1.den (n : Nat) {x0 : AV} {h h' : H} {v : AV} (hp : pureL [x0] = true) (he : result_note_c1.f (result_note_c1.JD n) x0 [] = some (.ret v, h')) (hw : v.pure = true) (hro : retOk Tryz.f162 (.ret v) = true) : D n_result_note_c1 [x0] h = some (.ret v, h) :=
  den_val0 (by kernel_rfl) Tryz.func162 (c := result_note_c1.c) (by kernel_rfl) (by kernel_rfl) (by kernel_rfl) n hp (by rw [show (pol.ann 162).1 = result_note_c1.A by kernel_rfl, show (pol.ann 162).2 = result_note_c1.an by kernel_rfl, body_real _ _ (by kernel_rfl)]; exact he) hw hro
noncomputable abbrev leb_Get.JD (n : Nat) : Jn (AEnd × H) := leb_Get.J D n
theorem leb_Get.fx (n : Nat) : leb_Get.F D n (leb_Get.JD n) := realJ_fix
theorem leb_Get.den (n : Nat) {x0 : AV} {h h' : H} {v : AV} (hp : pureL [x0] = true) (he : leb_Get.f (leb_Get.JD n) x0 [] = some (.ret v, h')) (hw : v.pure = true) (hro : retOk Tryz.f163 (.ret v) = true) : D n_leb_Get [x0] h = some (.ret v, h) :=
  den_val0 (by kernel_rfl) Tryz.func163 (c := leb_Get.c) (by kernel_rfl) (by kernel_rfl) (by kernel_rfl) n hp (by rw [show (pol.ann 163).1 = leb_Get.A by kernel_rfl, show (pol.ann 163).2 = leb_Get.an by kernel_rfl, body_real _ _ (by kernel_rfl)]; exact he) hw hro
noncomputable abbrev cur_ask_int.JD (n : Nat) : Jn (AEnd × H) := cur_ask_int.J D n
theorem cur_ask_int.fx (n : Nat) : cur_ask_int.F D n (cur_ask_int.JD n) := realJ_fix
theorem cur_ask_int.den (n : Nat) {x0 x1 : AV} {h h' : H} {r : AEnd} (he : cur_ask_int.f (cur_ask_int.JD n) x0 x1 h = some (r, h')) (hro : retOk Tryz.f164 r = true) : D n_cur_ask_int [x0, x1] h = some (r, h') :=
  den_at (by kernel_rfl) Tryz.func164 (c := cur_ask_int.c) (by kernel_rfl) (ne0 (by kernel_rfl)) (by kernel_rfl) n (by rw [show (pol.ann 164).1 = cur_ask_int.A by kernel_rfl, show (pol.ann 164).2 = cur_ask_int.an by kernel_rfl, body_real _ _ (by kernel_rfl)]; exact he) hro
noncomputable abbrev cur_Reader_Count_c1.JD (n : Nat) : Jn (AEnd × H) := cur_Reader_Count_c1.J D n
theorem cur_Reader_Count_c1.fx (n : Nat) : cur_Reader_Count_c1.F D n (cur_Reader_Count_c1.JD n) := realJ_fix
theorem cur_Reader_Count_c1.den (n : Nat) {x0 x1 : AV} {h h' : H} {r : AEnd} (he : cur_Reader_Count_c1.f (cur_Reader_Count_c1.JD n) x0 x1 h = some (r, h')) (hro : retOk Tryz.f165 r = true) : D n_cur_Reader_Count_c1 [x0, x1] h = some (r, h') :=
  den_at (by kernel_rfl) Tryz.func165 (c := cur_Reader_Count_c1.c) (by kernel_rfl) (ne0 (by kernel_rfl)) (by kernel_rfl) n (by rw [show (pol.ann 165).1 = cur_Reader_Count_c1.A by kernel_rfl, show (pol.ann 165).2 = cur_Reader_Count_c1.an by kernel_rfl, body_real _ _ (by kernel_rfl)]; exact he) hro
noncomputable abbrev cur_Reader_Left.JD (n : Nat) : Jn (AEnd × H) := cur_Reader_Left.J D n
theorem cur_Reader_Left.fx (n : Nat) : cur_Reader_Left.F D n (cur_Reader_Left.JD n) := realJ_fix
theorem cur_Reader_Left.den (n : Nat) {x0 : AV} {h h' : H} {r : AEnd} (he : cur_Reader_Left.f (cur_Reader_Left.JD n) x0 h = some (r, h')) (hro : retOk Tryz.f166 r = true) : D n_cur_Reader_Left [x0] h = some (r, h') :=
  den_at (by kernel_rfl) Tryz.func166 (c := cur_Reader_Left.c) (by kernel_rfl) (ne0 (by kernel_rfl)) (by kernel_rfl) n (by rw [show (pol.ann 166).1 = cur_Reader_Left.A by kernel_rfl, show (pol.ann 166).2 = cur_Reader_Left.an by kernel_rfl, body_real _ _ (by kernel_rfl)]; exact he) hro
noncomputable abbrev cur_Reader_Fail.JD (n : Nat) : Jn (AEnd × H) := cur_Reader_Fail.J D n
theorem cur_Reader_Fail.fx (n : Nat) : cur_Reader_Fail.F D n (cur_Reader_Fail.JD n) := realJ_fix
theorem cur_Reader_Fail.den (n : Nat) {x0 x1 : AV} {h h' : H} {r : AEnd} (he : cur_Reader_Fail.f (cur_Reader_Fail.JD n) x0 x1 h = some (r, h')) (hro : retOk Tryz.f167 r = true) : D n_cur_Reader_Fail [x0, x1] h = some (r, h') :=
  den_at (by kernel_rfl) Tryz.func167 (c := cur_Reader_Fail.c) (by kernel_rfl) (ne0 (by kernel_rfl)) (by kernel_rfl) n (by rw [show (pol.ann 167).1 = cur_Reader_Fail.A by kernel_rfl, show (pol.ann 167).2 = cur_Reader_Fail.an by kernel_rfl, body_real _ _ (by kernel_rfl)]; exact he) hro
noncomputable abbrev ref03_bit.JD (n : Nat) : Jn (AEnd × H) := ref03_bit.J D n
theorem ref03_bit.fx (n : Nat) : ref03_bit.F D n (ref03_bit.JD n) := realJ_fix
theorem ref03_bit.den (n : Nat) {x0 x1 : AV} {h h' : H} {v : AV} (hp : pureL [x0, x1] = true) (he : ref03_bit.f (ref03_bit.JD n) x0 x1 [] = some (.ret v, h')) (hw : v.pure = true) (hro : retOk Tryz.f168 (.ret v) = true) : D n_warrantorref03_bit [x0, x1] h = some (.ret v, h) :=
  den_val0 (by kernel_rfl) Tryz.func168 (c := ref03_bit.c) (by kernel_rfl) (by kernel_rfl) (by kernel_rfl) n hp (by rw [show (pol.ann 168).1 = ref03_bit.A by kernel_rfl, show (pol.ann 168).2 = ref03_bit.an by kernel_rfl, body_real _ _ (by kernel_rfl)]; exact he) hw hro
noncomputable abbrev strings_indexFunc.JD (n : Nat) : Jn (AEnd × H) := strings_indexFunc.J D n
theorem strings_indexFunc.fx (n : Nat) : strings_indexFunc.F D n (strings_indexFunc.JD n) := realJ_fix
theorem strings_indexFunc.den (n : Nat) {x0 x1 x2 : AV} {h h' : H} {v : AV} (hp : pureL [x0, x1, x2] = true) (he : strings_indexFunc.f (strings_indexFunc.JD n) x0 x1 x2 [] = some (.ret v, h')) (hw : v.pure = true) (hro : retOk Tryz.f169 (.ret v) = true) : D n_strings_indexFunc [x0, x1, x2] h = some (.ret v, h) :=
  den_val0 (by kernel_rfl) Tryz.func169 (c := strings_indexFunc.c) (by kernel_rfl) (by kernel_rfl) (by kernel_rfl) n hp (by rw [show (pol.ann 169).1 = strings_indexFunc.A by kernel_rfl, show (pol.ann 169).2 = strings_indexFunc.an by kernel_rfl, body_real _ _ (by kernel_rfl)]; exact he) hw hro
noncomputable abbrev prog_kinds_c1.JD (n : Nat) : Jn (AEnd × H) := prog_kinds_c1.J D n
theorem prog_kinds_c1.fx (n : Nat) : prog_kinds_c1.F D n (prog_kinds_c1.JD n) := realJ_fix
theorem prog_kinds_c1.den (n : Nat) {x0 x1 : AV} {h h' : H} {v : AV} (hp : pureL [x0, x1] = true) (he : prog_kinds_c1.f (prog_kinds_c1.JD n) x0 x1 [] = some (.ret v, h')) (hw : v.pure = true) (hro : retOk Tryz.f170 (.ret v) = true) : D n_prog_kinds_c1 [x0, x1] h = some (.ret v, h) :=
  den_val0 (by kernel_rfl) Tryz.func170 (c := prog_kinds_c1.c) (by kernel_rfl) (by kernel_rfl) (by kernel_rfl) n hp (by rw [show (pol.ann 170).1 = prog_kinds_c1.A by kernel_rfl, show (pol.ann 170).2 = prog_kinds_c1.an by kernel_rfl, body_real _ _ (by kernel_rfl)]; exact he) hw hro
noncomputable abbrev val_Is.JD (n : Nat) : Jn (AEnd × H) := val_Is.J D n
theorem val_Is.fx (n : Nat) : val_Is.F D n (val_Is.JD n) := realJ_fix
theorem val_Is.den (n : Nat) {x0 : AV} {h h' : H} {v : AV} (hp : pureL [x0] = true) (he : val_Is.f (val_Is.JD n) x0 [] = some (.ret v, h')) (hw : v.pure = true) (hro : retOk Tryz.f171 (.ret v) = true) : D n_val_Is [x0] h = some (.ret v, h) :=
  den_val0 (by kernel_rfl) Tryz.func171 (c := val_Is.c) (by kernel_rfl) (by kernel_rfl) (by kernel_rfl) n hp (by rw [show (pol.ann 171).1 = val_Is.A by kernel_rfl, show (pol.ann 171).2 = val_Is.an by kernel_rfl, body_real _ _ (by kernel_rfl)]; exact he) hw hro
noncomputable abbrev prog_kinds_c2.JD (n : Nat) : Jn (AEnd × H) := prog_kinds_c2.J D n
theorem prog_kinds_c2.fx (n : Nat) : prog_kinds_c2.F D n (prog_kinds_c2.JD n) := realJ_fix
theorem prog_kinds_c2.den (n : Nat) {x0 x1 : AV} {h h' : H} {v : AV} (hp : pureL [x0, x1] = true) (he : prog_kinds_c2.f (prog_kinds_c2.JD n) x0 x1 [] = some (.ret v, h')) (hw : v.pure = true) (hro : retOk Tryz.f172 (.ret v) = true) : D n_prog_kinds_c2 [x0, x1] h = some (.ret v, h) :=
  den_val0 (by kernel_rfl) Tryz.func172 (c := prog_kinds_c2.c) (by kernel_rfl) (by kernel_rfl) (by kernel_rfl) n hp (by rw [show (pol.ann 172).1 = prog_kinds_c2.A by kernel_rfl, show (pol.ann 172).2 = prog_kinds_c2.an by kernel_rfl, body_real _ _ (by kernel_rfl)]; exact he) hw hro
noncomputable abbrev prog_kinds_c3.JD (n : Nat) : Jn (AEnd × H) := prog_kinds_c3.J D n
theorem prog_kinds_c3.fx (n : Nat) : prog_kinds_c3.F D n (prog_kinds_c3.JD n) := realJ_fix
theorem prog_kinds_c3.den (n : Nat) {x0 x1 : AV} {h h' : H} {v : AV} (hp : pureL [x0, x1] = true) (he : prog_kinds_c3.f (prog_kinds_c3.JD n) x0 x1 [] = some (.ret v, h')) (hw : v.pure = true) (hro : retOk Tryz.f173 (.ret v) = true) : D n_prog_kinds_c3 [x0, x1] h = some (.ret v, h) :=
  den_val0 (by kernel_rfl) Tryz.func173 (c := prog_kinds_c3.c) (by kernel_rfl) (by kernel_rfl) (by kernel_rfl) n hp (by rw [show (pol.ann 173).1 = prog_kinds_c3.A by kernel_rfl, show (pol.ann 173).2 = prog_kinds_c3.an by kernel_rfl, body_real _ _ (by kernel_rfl)]; exact he) hw hro
noncomputable abbrev prog_kinds_c4.JD (n : Nat) : Jn (AEnd × H) := prog_kinds_c4.J D n
theorem prog_kinds_c4.fx (n : Nat) : prog_kinds_c4.F D n (prog_kinds_c4.JD n) := realJ_fix
theorem prog_kinds_c4.den (n : Nat) {x0 x1 : AV} {h h' : H} {v : AV} (hp : pureL [x0, x1] = true) (he : prog_kinds_c4.f (prog_kinds_c4.JD n) x0 x1 [] = some (.ret v, h')) (hw : v.pure = true) (hro : retOk Tryz.f174 (.ret v) = true) : D n_prog_kinds_c4 [x0, x1] h = some (.ret v, h) :=
  den_val0 (by kernel_rfl) Tryz.func174 (c := prog_kinds_c4.c) (by kernel_rfl) (by kernel_rfl) (by kernel_rfl) n hp (by rw [show (pol.ann 174).1 = prog_kinds_c4.A by kernel_rfl, show (pol.ann 174).2 = prog_kinds_c4.an by kernel_rfl, body_real _ _ (by kernel_rfl)]; exact he) hw hro
noncomputable abbrev prog_letter.JD (n : Nat) : Jn (AEnd × H) := prog_letter.J D n
theorem prog_letter.fx (n : Nat) : prog_letter.F D n (prog_letter.JD n) := realJ_fix
theorem prog_letter.den (n : Nat) {x0 : AV} {h h' : H} {v : AV} (hp : pureL [x0] = true) (he : prog_letter.f (prog_letter.JD n) x0 [] = some (.ret v, h')) (hw : v.pure = true) (hro : retOk Tryz.f175 (.ret v) = true) : D n_prog_letter [x0] h = some (.ret v, h) :=
  den_val0 (by kernel_rfl) Tryz.func175 (c := prog_letter.c) (by kernel_rfl) (by kernel_rfl) (by kernel_rfl) n hp (by rw [show (pol.ann 175).1 = prog_letter.A by kernel_rfl, show (pol.ann 175).2 = prog_letter.an by kernel_rfl, body_real _ _ (by kernel_rfl)]; exact he) hw hro
noncomputable abbrev val_Clip.JD (n : Nat) : Jn (AEnd × H) := val_Clip.J D n
theorem val_Clip.fx (n : Nat) : val_Clip.F D n (val_Clip.JD n) := realJ_fix
theorem val_Clip.den (n : Nat) {x0 : AV} {h h' : H} {v : AV} (hp : pureL [x0] = true) (he : val_Clip.f (val_Clip.JD n) x0 [] = some (.ret v, h')) (hw : v.pure = true) (hro : retOk Tryz.f177 (.ret v) = true) : D n_val_Clip [x0] h = some (.ret v, h) :=
  den_val0 (by kernel_rfl) Tryz.func177 (c := val_Clip.c) (by kernel_rfl) (by kernel_rfl) (by kernel_rfl) n hp (by rw [show (pol.ann 177).1 = val_Clip.A by kernel_rfl, show (pol.ann 177).2 = val_Clip.an by kernel_rfl, body_real _ _ (by kernel_rfl)]; exact he) hw hro
end Go.Proofs.YtdlnkfghgbddhaaGreat
