import Derived.Test.YtdggnlgklicbdaaP2G1
import Derived.Test.YtdggnlgklicbdaaP2G2
import Derived.Test.YtdggnlgklicbdaaVa5
import Derived.Test.YtdggnlgklicbdaaP2Nx
set_option linter.all false
open Go Go.Ve Go.Proofs
namespace Go.Proofs.Ytdggnlgklicbdaa
set_option maxRecDepth 100000
noncomputable def tab : List (Nat × FAnn × Ann) := [(3, law20_FingerOf.A, law20_FingerOf.an), (4, law20_FingerMoves.A, law20_FingerMoves.an), (5, law20_FingerTurns.A, law20_FingerTurns.an), (6, law20_FingerSpaces.A, law20_FingerSpaces.an), (7, law25_BaseSums.A, law25_BaseSums.an), (8, law25_BaseMany.A, law25_BaseMany.an), (9, ref17_Large.A, ref17_Large.an), (10, law20_lives.A, law20_lives.an), (11, ref20_Rank.A, ref20_Rank.an), (12, finger_One.A, finger_One.an), (13, ref20_One.A, ref20_One.an), (14, ref10_Same.A, ref10_Same.an), (15, finger_Ranks.A, finger_Ranks.an), (16, ref20_Same.A, ref20_Same.an), (17, finger_Of.A, finger_Of.an), (18, ref20_Of.A, ref20_Of.an), (19, ref20_Sorted.A, ref20_Sorted.an), (20, ref18_Norm.A, ref18_Norm.an), (21, ref25_Large.A, ref25_Large.an), (22, law25_lives.A, law25_lives.an), (23, base_Union.A, base_Union.an), (24, base_Less.A, base_Less.an), (25, base_Find.A, base_Find.an), (26, base_Same.A, base_Same.an), (27, ref21_SameMarks.A, ref21_SameMarks.an), (28, ref21_Base.A, ref21_Base.an), (29, ref25_Has.A, ref25_Has.an), (30, ref25_Union.A, ref25_Union.an), (31, ref25_Less.A, ref25_Less.an), (32, ref17_Cmp.A, ref17_Cmp.an), (33, ref20_key.A, ref20_key.an), (34, fnv_More.A, fnv_More.an), (35, fnv_Sum.A, fnv_Sum.an), (36, finger_key.A, finger_key.an), (37, leb_Put.A, leb_Put.an), (38, ref19_Sum.A, ref19_Sum.an), (39, ref02_Num.A, ref02_Num.an), (40, slices_SortStableFunc_int_int.A, slices_SortStableFunc_int_int.an), (41, finger_Ranks_c1.A, finger_Ranks_c1.an), (42, alarm_Cmp.A, alarm_Cmp.an), (44, ref18_word.A, ref18_word.an), (45, base_Match.A, base_Match.an), (46, base_Of.A, base_Of.an), (47, base_both.A, base_both.an), (48, base_part_api_Mark.A, base_part_api_Mark.an), (49, base_Less_c1.A, base_Less_c1.an), (50, base_search.A, base_search.an), (51, result_Base.A, result_Base.an), (52, slices_Equal_api_Mark_api_Mark.A, slices_Equal_api_Mark_api_Mark.an), (53, ref21_Note.A, ref21_Note.an), (54, ref25_put.A, ref25_put.an), (55, ref17_sign.A, ref17_sign.an), (56, ref17_number.A, ref17_number.an), (57, ref18_Key.A, ref18_Key.an), (58, norm_Key.A, norm_Key.an), (59, ref19_More.A, ref19_More.an), (60, ref01_Put.A, ref01_Put.an), (61, slices_stableCmpFunc_int.A, slices_stableCmpFunc_int.an), (62, alarm_compares.A, alarm_compares.an), (63, ref11_Name.A, ref11_Name.an), (64, base_part_api_Alarm.A, base_part_api_Alarm.an), (65, base_Match_c1.A, base_Match_c1.an), (66, base_Match_c2.A, base_Match_c2.an), (67, slices_Sort_uint64_uint64.A, slices_Sort_uint64_uint64.an), (69, slices_BinarySearchFunc_api_Mark_api_Mark_uint64.A, slices_BinarySearchFunc_api_Mark_api_Mark_uint64.an), (70, base_search_c1.A, base_search_c1.an), (71, cmp_Compare_uint64.A, cmp_Compare_uint64.an), (72, result_note.A, result_note.an), (73, ref17_Expr.A, ref17_Expr.an), (74, ref02_Text.A, ref02_Text.an), (75, cur_New.A, cur_New.an), (76, cur_Pen_U.A, cur_Pen_U.an), (77, cur_Pen_Text.A, cur_Pen_Text.an), (79, cur_Pen_Bytes.A, cur_Pen_Bytes.an), (80, slices_insertionSortCmpFunc_int.A, slices_insertionSortCmpFunc_int.an), (81, slices_symMergeCmpFunc_int.A, slices_symMergeCmpFunc_int.an), (82, alarm_compares_c1.A, alarm_compares_c1.an), (83, cmp_Compare_string.A, cmp_Compare_string.an), (84, alarm_compares_c2.A, alarm_compares_c2.an), (85, cmp_Compare_int.A, cmp_Compare_int.an), (86, alarm_compares_c3.A, alarm_compares_c3.an), (87, alarm_compares_c4.A, alarm_compares_c4.an), (88, alarm_compares_c5.A, alarm_compares_c5.an), (89, alarm_compares_c6.A, alarm_compares_c6.an), (90, ref11_more.A, ref11_more.an), (91, ref11_letter.A, ref11_letter.an), (94, cmp_isNaN_uint64.A, cmp_isNaN_uint64.an), (95, result_note_c1.A, result_note_c1.an), (96, strings_ContainsFunc.A, strings_ContainsFunc.an), (97, cur_Pen_put.A, cur_Pen_put.an), (98, norm_Parts.A, norm_Parts.an), (99, norm_word.A, norm_word.an), (100, strings_Builder_WriteByte.A, strings_Builder_WriteByte.an), (101, strings_Builder_WriteString.A, strings_Builder_WriteString.an), (104, slices_rotateCmpFunc_int.A, slices_rotateCmpFunc_int.an), (105, cmp_isNaN_string.A, cmp_isNaN_string.an), (106, cmp_isNaN_int.A, cmp_isNaN_int.an), (113, cmp_Less_uint64.A, cmp_Less_uint64.an), (118, strings_IndexFunc.A, strings_IndexFunc.an), (120, slices_swapRangeCmpFunc_int.A, slices_swapRangeCmpFunc_int.an), (126, strings_indexFunc.A, strings_indexFunc.an)]
def here : List Nat := [40, 41, 48, 49, 61, 62, 64, 65, 66, 69, 75, 76, 77, 79, 80, 81, 96, 97, 100, 101, 104, 118, 120, 126]
noncomputable def exts : List (Nat × (List AV → H → Option (AEnd × H))) := [(43, partsE), (78, normE), (103, cloneE 1 1)]
noncomputable def pol : Pol := tabPol tab here exts
noncomputable abbrev D : Cl := den Try.prog pol
noncomputable abbrev law20_FingerOf.JD (n : Nat) : Jn (AEnd × H) := law20_FingerOf.J D n
theorem law20_FingerOf.fx (n : Nat) : law20_FingerOf.F D n (law20_FingerOf.JD n) := realJ_fix
theorem law20_FingerOf.den (n : Nat) {x0 x1 x2 : AV} {h h' : H} {v : AV} (hp : pureL [x0, x1, x2] = true) (he : law20_FingerOf.f (law20_FingerOf.JD n) x0 x1 x2 [] = some (.ret v, h')) (hw : v.pure = true) (hro : retOk Try.f3 (.ret v) = true) : D n_warrantorlaw20_FingerOf [x0, x1, x2] h = some (.ret v, h) :=
  den_val0 (by kernel_rfl) Try.func3 (c := law20_FingerOf.c) (by kernel_rfl) (by kernel_rfl) (by kernel_rfl) n hp (by rw [show (pol.ann 3).1 = law20_FingerOf.A by kernel_rfl, show (pol.ann 3).2 = law20_FingerOf.an by kernel_rfl, body_real _ _ (by kernel_rfl)]; exact he) hw hro
noncomputable abbrev law20_FingerMoves.JD (n : Nat) : Jn (AEnd × H) := law20_FingerMoves.J D n
theorem law20_FingerMoves.fx (n : Nat) : law20_FingerMoves.F D n (law20_FingerMoves.JD n) := realJ_fix
theorem law20_FingerMoves.den (n : Nat) {x0 x1 x2 x3 : AV} {h h' : H} {v : AV} (hp : pureL [x0, x1, x2, x3] = true) (he : law20_FingerMoves.f (law20_FingerMoves.JD n) x0 x1 x2 x3 [] = some (.ret v, h')) (hw : v.pure = true) (hro : retOk Try.f4 (.ret v) = true) : D n_warrantorlaw20_FingerMoves [x0, x1, x2, x3] h = some (.ret v, h) :=
  den_val0 (by kernel_rfl) Try.func4 (c := law20_FingerMoves.c) (by kernel_rfl) (by kernel_rfl) (by kernel_rfl) n hp (by rw [show (pol.ann 4).1 = law20_FingerMoves.A by kernel_rfl, show (pol.ann 4).2 = law20_FingerMoves.an by kernel_rfl, body_real _ _ (by kernel_rfl)]; exact he) hw hro
noncomputable abbrev law20_FingerTurns.JD (n : Nat) : Jn (AEnd × H) := law20_FingerTurns.J D n
theorem law20_FingerTurns.fx (n : Nat) : law20_FingerTurns.F D n (law20_FingerTurns.JD n) := realJ_fix
theorem law20_FingerTurns.den (n : Nat) {x0 x1 : AV} {h h' : H} {v : AV} (hp : pureL [x0, x1] = true) (he : law20_FingerTurns.f (law20_FingerTurns.JD n) x0 x1 [] = some (.ret v, h')) (hw : v.pure = true) (hro : retOk Try.f5 (.ret v) = true) : D n_warrantorlaw20_FingerTurns [x0, x1] h = some (.ret v, h) :=
  den_val0 (by kernel_rfl) Try.func5 (c := law20_FingerTurns.c) (by kernel_rfl) (by kernel_rfl) (by kernel_rfl) n hp (by rw [show (pol.ann 5).1 = law20_FingerTurns.A by kernel_rfl, show (pol.ann 5).2 = law20_FingerTurns.an by kernel_rfl, body_real _ _ (by kernel_rfl)]; exact he) hw hro
noncomputable abbrev law20_FingerSpaces.JD (n : Nat) : Jn (AEnd × H) := law20_FingerSpaces.J D n
theorem law20_FingerSpaces.fx (n : Nat) : law20_FingerSpaces.F D n (law20_FingerSpaces.JD n) := realJ_fix
theorem law20_FingerSpaces.den (n : Nat) {x0 : AV} {h h' : H} {v : AV} (hp : pureL [x0] = true) (he : law20_FingerSpaces.f (law20_FingerSpaces.JD n) x0 [] = some (.ret v, h')) (hw : v.pure = true) (hro : retOk Try.f6 (.ret v) = true) : D n_warrantorlaw20_FingerSpaces [x0] h = some (.ret v, h) :=
  den_val0 (by kernel_rfl) Try.func6 (c := law20_FingerSpaces.c) (by kernel_rfl) (by kernel_rfl) (by kernel_rfl) n hp (by rw [show (pol.ann 6).1 = law20_FingerSpaces.A by kernel_rfl, show (pol.ann 6).2 = law20_FingerSpaces.an by kernel_rfl, body_real _ _ (by kernel_rfl)]; exact he) hw hro
noncomputable abbrev law25_BaseSums.JD (n : Nat) : Jn (AEnd × H) := law25_BaseSums.J D n
theorem law25_BaseSums.fx (n : Nat) : law25_BaseSums.F D n (law25_BaseSums.JD n) := realJ_fix
theorem law25_BaseSums.den (n : Nat) {x0 x1 x2 : AV} {h h' : H} {v : AV} (hp : pureL [x0, x1, x2] = true) (he : law25_BaseSums.f (law25_BaseSums.JD n) x0 x1 x2 [] = some (.ret v, h')) (hw : v.pure = true) (hro : retOk Try.f7 (.ret v) = true) : D n_warrantorlaw25_BaseSums [x0, x1, x2] h = some (.ret v, h) :=
  den_val0 (by kernel_rfl) Try.func7 (c := law25_BaseSums.c) (by kernel_rfl) (by kernel_rfl) (by kernel_rfl) n hp (by rw [show (pol.ann 7).1 = law25_BaseSums.A by kernel_rfl, show (pol.ann 7).2 = law25_BaseSums.an by kernel_rfl, body_real _ _ (by kernel_rfl)]; exact he) hw hro
noncomputable abbrev law25_BaseMany.JD (n : Nat) : Jn (AEnd × H) := law25_BaseMany.J D n
theorem law25_BaseMany.fx (n : Nat) : law25_BaseMany.F D n (law25_BaseMany.JD n) := realJ_fix
theorem law25_BaseMany.den (n : Nat) {x0 x1 x2 : AV} {h h' : H} {v : AV} (hp : pureL [x0, x1, x2] = true) (he : law25_BaseMany.f (law25_BaseMany.JD n) x0 x1 x2 [] = some (.ret v, h')) (hw : v.pure = true) (hro : retOk Try.f8 (.ret v) = true) : D n_warrantorlaw25_BaseMany [x0, x1, x2] h = some (.ret v, h) :=
  den_val0 (by kernel_rfl) Try.func8 (c := law25_BaseMany.c) (by kernel_rfl) (by kernel_rfl) (by kernel_rfl) n hp (by rw [show (pol.ann 8).1 = law25_BaseMany.A by kernel_rfl, show (pol.ann 8).2 = law25_BaseMany.an by kernel_rfl, body_real _ _ (by kernel_rfl)]; exact he) hw hro
noncomputable abbrev ref17_Large.JD (n : Nat) : Jn (AEnd × H) := ref17_Large.J D n
theorem ref17_Large.fx (n : Nat) : ref17_Large.F D n (ref17_Large.JD n) := realJ_fix
theorem ref17_Large.den (n : Nat) {x0 : AV} {h h' : H} {v : AV} (hp : pureL [x0] = true) (he : ref17_Large.f (ref17_Large.JD n) x0 [] = some (.ret v, h')) (hw : v.pure = true) (hro : retOk Try.f9 (.ret v) = true) : D n_warrantorref17_Large [x0] h = some (.ret v, h) :=
  den_val0 (by kernel_rfl) Try.func9 (c := ref17_Large.c) (by kernel_rfl) (by kernel_rfl) (by kernel_rfl) n hp (by rw [show (pol.ann 9).1 = ref17_Large.A by kernel_rfl, show (pol.ann 9).2 = ref17_Large.an by kernel_rfl, body_real _ _ (by kernel_rfl)]; exact he) hw hro
noncomputable abbrev law20_lives.JD (n : Nat) : Jn (AEnd × H) := law20_lives.J D n
theorem law20_lives.fx (n : Nat) : law20_lives.F D n (law20_lives.JD n) := realJ_fix
theorem law20_lives.den (n : Nat) {h h' : H} {v : AV} (hp : pureL [] = true) (he : law20_lives.f (law20_lives.JD n)  [] = some (.ret v, h')) (hw : v.pure = true) (hro : retOk Try.f10 (.ret v) = true) : D n_warrantorlaw20_lives [] h = some (.ret v, h) :=
  den_val0 (by kernel_rfl) Try.func10 (c := law20_lives.c) (by kernel_rfl) (by kernel_rfl) (by kernel_rfl) n hp (by rw [show (pol.ann 10).1 = law20_lives.A by kernel_rfl, show (pol.ann 10).2 = law20_lives.an by kernel_rfl, body_real _ _ (by kernel_rfl)]; exact he) hw hro
noncomputable abbrev ref20_Rank.JD (n : Nat) : Jn (AEnd × H) := ref20_Rank.J D n
theorem ref20_Rank.fx (n : Nat) : ref20_Rank.F D n (ref20_Rank.JD n) := realJ_fix
theorem ref20_Rank.den (n : Nat) {x0 x1 : AV} {h h' : H} {v : AV} (hp : pureL [x0, x1] = true) (he : ref20_Rank.f (ref20_Rank.JD n) x0 x1 [] = some (.ret v, h')) (hw : v.pure = true) (hro : retOk Try.f11 (.ret v) = true) : D n_warrantorref20_Rank [x0, x1] h = some (.ret v, h) :=
  den_val0 (by kernel_rfl) Try.func11 (c := ref20_Rank.c) (by kernel_rfl) (by kernel_rfl) (by kernel_rfl) n hp (by rw [show (pol.ann 11).1 = ref20_Rank.A by kernel_rfl, show (pol.ann 11).2 = ref20_Rank.an by kernel_rfl, body_real _ _ (by kernel_rfl)]; exact he) hw hro
noncomputable abbrev finger_One.JD (n : Nat) : Jn (AEnd × H) := finger_One.J D n
theorem finger_One.fx (n : Nat) : finger_One.F D n (finger_One.JD n) := realJ_fix
theorem finger_One.den (n : Nat) {x0 x1 : AV} {h h' : H} {v : AV} (hp : pureL [x0, x1] = true) (he : finger_One.f (finger_One.JD n) x0 x1 [] = some (.ret v, h')) (hw : v.pure = true) (hro : retOk Try.f12 (.ret v) = true) : D n_finger_One [x0, x1] h = some (.ret v, h) :=
  den_val0 (by kernel_rfl) Try.func12 (c := finger_One.c) (by kernel_rfl) (by kernel_rfl) (by kernel_rfl) n hp (by rw [show (pol.ann 12).1 = finger_One.A by kernel_rfl, show (pol.ann 12).2 = finger_One.an by kernel_rfl, body_real _ _ (by kernel_rfl)]; exact he) hw hro
noncomputable abbrev ref20_One.JD (n : Nat) : Jn (AEnd × H) := ref20_One.J D n
theorem ref20_One.fx (n : Nat) : ref20_One.F D n (ref20_One.JD n) := realJ_fix
theorem ref20_One.den (n : Nat) {x0 x1 : AV} {h h' : H} {v : AV} (hp : pureL [x0, x1] = true) (he : ref20_One.f (ref20_One.JD n) x0 x1 [] = some (.ret v, h')) (hw : v.pure = true) (hro : retOk Try.f13 (.ret v) = true) : D n_warrantorref20_One [x0, x1] h = some (.ret v, h) :=
  den_val0 (by kernel_rfl) Try.func13 (c := ref20_One.c) (by kernel_rfl) (by kernel_rfl) (by kernel_rfl) n hp (by rw [show (pol.ann 13).1 = ref20_One.A by kernel_rfl, show (pol.ann 13).2 = ref20_One.an by kernel_rfl, body_real _ _ (by kernel_rfl)]; exact he) hw hro
noncomputable abbrev ref10_Same.JD (n : Nat) : Jn (AEnd × H) := ref10_Same.J D n
theorem ref10_Same.fx (n : Nat) : ref10_Same.F D n (ref10_Same.JD n) := realJ_fix
theorem ref10_Same.den (n : Nat) {x0 x1 : AV} {h h' : H} {v : AV} (hp : pureL [x0, x1] = true) (he : ref10_Same.f (ref10_Same.JD n) x0 x1 [] = some (.ret v, h')) (hw : v.pure = true) (hro : retOk Try.f14 (.ret v) = true) : D n_warrantorref10_Same [x0, x1] h = some (.ret v, h) :=
  den_val0 (by kernel_rfl) Try.func14 (c := ref10_Same.c) (by kernel_rfl) (by kernel_rfl) (by kernel_rfl) n hp (by rw [show (pol.ann 14).1 = ref10_Same.A by kernel_rfl, show (pol.ann 14).2 = ref10_Same.an by kernel_rfl, body_real _ _ (by kernel_rfl)]; exact he) hw hro
noncomputable abbrev finger_Ranks.JD (n : Nat) : Jn (AEnd × H) := finger_Ranks.J D n
theorem finger_Ranks.fx (n : Nat) : finger_Ranks.F D n (finger_Ranks.JD n) := realJ_fix
theorem finger_Ranks.den (n : Nat) {x0 : AV} {h h' : H} {v : AV} (hp : pureL [x0] = true) (he : finger_Ranks.f (finger_Ranks.JD n) x0 [] = some (.ret v, h')) (hw : v.pure = true) (hro : retOk Try.f15 (.ret v) = true) : D n_finger_Ranks [x0] h = some (.ret v, h) :=
  den_val0 (by kernel_rfl) Try.func15 (c := finger_Ranks.c) (by kernel_rfl) (by kernel_rfl) (by kernel_rfl) n hp (by rw [show (pol.ann 15).1 = finger_Ranks.A by kernel_rfl, show (pol.ann 15).2 = finger_Ranks.an by kernel_rfl, body_real _ _ (by kernel_rfl)]; exact he) hw hro
noncomputable abbrev ref20_Same.JD (n : Nat) : Jn (AEnd × H) := ref20_Same.J D n
theorem ref20_Same.fx (n : Nat) : ref20_Same.F D n (ref20_Same.JD n) := realJ_fix
theorem ref20_Same.den (n : Nat) {x0 x1 : AV} {h h' : H} {v : AV} (hp : pureL [x0, x1] = true) (he : ref20_Same.f (ref20_Same.JD n) x0 x1 [] = some (.ret v, h')) (hw : v.pure = true) (hro : retOk Try.f16 (.ret v) = true) : D n_warrantorref20_Same [x0, x1] h = some (.ret v, h) :=
  den_val0 (by kernel_rfl) Try.func16 (c := ref20_Same.c) (by kernel_rfl) (by kernel_rfl) (by kernel_rfl) n hp (by rw [show (pol.ann 16).1 = ref20_Same.A by kernel_rfl, show (pol.ann 16).2 = ref20_Same.an by kernel_rfl, body_real _ _ (by kernel_rfl)]; exact he) hw hro
noncomputable abbrev finger_Of.JD (n : Nat) : Jn (AEnd × H) := finger_Of.J D n
theorem finger_Of.fx (n : Nat) : finger_Of.F D n (finger_Of.JD n) := realJ_fix
theorem finger_Of.den (n : Nat) {x0 : AV} {h h' : H} {v : AV} (hp : pureL [x0] = true) (he : finger_Of.f (finger_Of.JD n) x0 [] = some (.ret v, h')) (hw : v.pure = true) (hro : retOk Try.f17 (.ret v) = true) : D n_finger_Of [x0] h = some (.ret v, h) :=
  den_val0 (by kernel_rfl) Try.func17 (c := finger_Of.c) (by kernel_rfl) (by kernel_rfl) (by kernel_rfl) n hp (by rw [show (pol.ann 17).1 = finger_Of.A by kernel_rfl, show (pol.ann 17).2 = finger_Of.an by kernel_rfl, body_real _ _ (by kernel_rfl)]; exact he) hw hro
noncomputable abbrev ref20_Of.JD (n : Nat) : Jn (AEnd × H) := ref20_Of.J D n
theorem ref20_Of.fx (n : Nat) : ref20_Of.F D n (ref20_Of.JD n) := realJ_fix
theorem ref20_Of.den (n : Nat) {x0 : AV} {h h' : H} {v : AV} (hp : pureL [x0] = true) (he : ref20_Of.f (ref20_Of.JD n) x0 [] = some (.ret v, h')) (hw : v.pure = true) (hro : retOk Try.f18 (.ret v) = true) : D n_warrantorref20_Of [x0] h = some (.ret v, h) :=
  den_val0 (by kernel_rfl) Try.func18 (c := ref20_Of.c) (by kernel_rfl) (by kernel_rfl) (by kernel_rfl) n hp (by rw [show (pol.ann 18).1 = ref20_Of.A by kernel_rfl, show (pol.ann 18).2 = ref20_Of.an by kernel_rfl, body_real _ _ (by kernel_rfl)]; exact he) hw hro
noncomputable abbrev ref20_Sorted.JD (n : Nat) : Jn (AEnd × H) := ref20_Sorted.J D n
theorem ref20_Sorted.fx (n : Nat) : ref20_Sorted.F D n (ref20_Sorted.JD n) := realJ_fix
theorem ref20_Sorted.den (n : Nat) {x0 : AV} {h h' : H} {v : AV} (hp : pureL [x0] = true) (he : ref20_Sorted.f (ref20_Sorted.JD n) x0 [] = some (.ret v, h')) (hw : v.pure = true) (hro : retOk Try.f19 (.ret v) = true) : D n_warrantorref20_Sorted [x0] h = some (.ret v, h) :=
  den_val0 (by kernel_rfl) Try.func19 (c := ref20_Sorted.c) (by kernel_rfl) (by kernel_rfl) (by kernel_rfl) n hp (by rw [show (pol.ann 19).1 = ref20_Sorted.A by kernel_rfl, show (pol.ann 19).2 = ref20_Sorted.an by kernel_rfl, body_real _ _ (by kernel_rfl)]; exact he) hw hro
noncomputable abbrev ref18_Norm.JD (n : Nat) : Jn (AEnd × H) := ref18_Norm.J D n
theorem ref18_Norm.fx (n : Nat) : ref18_Norm.F D n (ref18_Norm.JD n) := realJ_fix
theorem ref18_Norm.den (n : Nat) {x0 : AV} {h h' : H} {v : AV} (hp : pureL [x0] = true) (he : ref18_Norm.f (ref18_Norm.JD n) x0 [] = some (.ret v, h')) (hw : v.pure = true) (hro : retOk Try.f20 (.ret v) = true) : D n_warrantorref18_Norm [x0] h = some (.ret v, h) :=
  den_val0 (by kernel_rfl) Try.func20 (c := ref18_Norm.c) (by kernel_rfl) (by kernel_rfl) (by kernel_rfl) n hp (by rw [show (pol.ann 20).1 = ref18_Norm.A by kernel_rfl, show (pol.ann 20).2 = ref18_Norm.an by kernel_rfl, body_real _ _ (by kernel_rfl)]; exact he) hw hro
noncomputable abbrev ref25_Large.JD (n : Nat) : Jn (AEnd × H) := ref25_Large.J D n
theorem ref25_Large.fx (n : Nat) : ref25_Large.F D n (ref25_Large.JD n) := realJ_fix
theorem ref25_Large.den (n : Nat) {x0 x1 : AV} {h h' : H} {v : AV} (hp : pureL [x0, x1] = true) (he : ref25_Large.f (ref25_Large.JD n) x0 x1 [] = some (.ret v, h')) (hw : v.pure = true) (hro : retOk Try.f21 (.ret v) = true) : D n_warrantorref25_Large [x0, x1] h = some (.ret v, h) :=
  den_val0 (by kernel_rfl) Try.func21 (c := ref25_Large.c) (by kernel_rfl) (by kernel_rfl) (by kernel_rfl) n hp (by rw [show (pol.ann 21).1 = ref25_Large.A by kernel_rfl, show (pol.ann 21).2 = ref25_Large.an by kernel_rfl, body_real _ _ (by kernel_rfl)]; exact he) hw hro
noncomputable abbrev law25_lives.JD (n : Nat) : Jn (AEnd × H) := law25_lives.J D n
theorem law25_lives.fx (n : Nat) : law25_lives.F D n (law25_lives.JD n) := realJ_fix
theorem law25_lives.den (n : Nat) {h h' : H} {v : AV} (hp : pureL [] = true) (he : law25_lives.f (law25_lives.JD n)  [] = some (.ret v, h')) (hw : v.pure = true) (hro : retOk Try.f22 (.ret v) = true) : D n_warrantorlaw25_lives [] h = some (.ret v, h) :=
  den_val0 (by kernel_rfl) Try.func22 (c := law25_lives.c) (by kernel_rfl) (by kernel_rfl) (by kernel_rfl) n hp (by rw [show (pol.ann 22).1 = law25_lives.A by kernel_rfl, show (pol.ann 22).2 = law25_lives.an by kernel_rfl, body_real _ _ (by kernel_rfl)]; exact he) hw hro
noncomputable abbrev base_Union.JD (n : Nat) : Jn (AEnd × H) := base_Union.J D n
theorem base_Union.fx (n : Nat) : base_Union.F D n (base_Union.JD n) := realJ_fix
theorem base_Union.den (n : Nat) {x0 x1 : AV} {h h' : H} {v : AV} (hp : pureL [x0, x1] = true) (he : base_Union.f (base_Union.JD n) x0 x1 [] = some (.ret v, h')) (hw : v.pure = true) (hro : retOk Try.f23 (.ret v) = true) : D n_base_Union [x0, x1] h = some (.ret v, h) :=
  den_val0 (by kernel_rfl) Try.func23 (c := base_Union.c) (by kernel_rfl) (by kernel_rfl) (by kernel_rfl) n hp (by rw [show (pol.ann 23).1 = base_Union.A by kernel_rfl, show (pol.ann 23).2 = base_Union.an by kernel_rfl, body_real _ _ (by kernel_rfl)]; exact he) hw hro
noncomputable abbrev base_Less.JD (n : Nat) : Jn (AEnd × H) := base_Less.J D n
theorem base_Less.fx (n : Nat) : base_Less.F D n (base_Less.JD n) := realJ_fix
theorem base_Less.den (n : Nat) {x0 x1 : AV} {h h' : H} {v : AV} (hp : pureL [x0, x1] = true) (he : base_Less.f (base_Less.JD n) x0 x1 [] = some (.ret v, h')) (hw : v.pure = true) (hro : retOk Try.f24 (.ret v) = true) : D n_base_Less [x0, x1] h = some (.ret v, h) :=
  den_val0 (by kernel_rfl) Try.func24 (c := base_Less.c) (by kernel_rfl) (by kernel_rfl) (by kernel_rfl) n hp (by rw [show (pol.ann 24).1 = base_Less.A by kernel_rfl, show (pol.ann 24).2 = base_Less.an by kernel_rfl, body_real _ _ (by kernel_rfl)]; exact he) hw hro
noncomputable abbrev base_Find.JD (n : Nat) : Jn (AEnd × H) := base_Find.J D n
theorem base_Find.fx (n : Nat) : base_Find.F D n (base_Find.JD n) := realJ_fix
theorem base_Find.den (n : Nat) {x0 x1 : AV} {h h' : H} {v : AV} (hp : pureL [x0, x1] = true) (he : base_Find.f (base_Find.JD n) x0 x1 [] = some (.ret v, h')) (hw : v.pure = true) (hro : retOk Try.f25 (.ret v) = true) : D n_base_Find [x0, x1] h = some (.ret v, h) :=
  den_val0 (by kernel_rfl) Try.func25 (c := base_Find.c) (by kernel_rfl) (by kernel_rfl) (by kernel_rfl) n hp (by rw [show (pol.ann 25).1 = base_Find.A by kernel_rfl, show (pol.ann 25).2 = base_Find.an by kernel_rfl, body_real _ _ (by kernel_rfl)]; exact he) hw hro
noncomputable abbrev base_Same.JD (n : Nat) : Jn (AEnd × H) := base_Same.J D n
theorem base_Same.fx (n : Nat) : base_Same.F D n (base_Same.JD n) := realJ_fix
theorem base_Same.den (n : Nat) {x0 x1 : AV} {h h' : H} {v : AV} (hp : pureL [x0, x1] = true) (he : base_Same.f (base_Same.JD n) x0 x1 [] = some (.ret v, h')) (hw : v.pure = true) (hro : retOk Try.f26 (.ret v) = true) : D n_base_Same [x0, x1] h = some (.ret v, h) :=
  den_val0 (by kernel_rfl) Try.func26 (c := base_Same.c) (by kernel_rfl) (by kernel_rfl) (by kernel_rfl) n hp (by rw [show (pol.ann 26).1 = base_Same.A by kernel_rfl, show (pol.ann 26).2 = base_Same.an by kernel_rfl, body_real _ _ (by kernel_rfl)]; exact he) hw hro
noncomputable abbrev ref21_SameMarks.JD (n : Nat) : Jn (AEnd × H) := ref21_SameMarks.J D n
theorem ref21_SameMarks.fx (n : Nat) : ref21_SameMarks.F D n (ref21_SameMarks.JD n) := realJ_fix
theorem ref21_SameMarks.den (n : Nat) {x0 x1 : AV} {h h' : H} {v : AV} (hp : pureL [x0, x1] = true) (he : ref21_SameMarks.f (ref21_SameMarks.JD n) x0 x1 [] = some (.ret v, h')) (hw : v.pure = true) (hro : retOk Try.f27 (.ret v) = true) : D n_warrantorref21_SameMarks [x0, x1] h = some (.ret v, h) :=
  den_val0 (by kernel_rfl) Try.func27 (c := ref21_SameMarks.c) (by kernel_rfl) (by kernel_rfl) (by kernel_rfl) n hp (by rw [show (pol.ann 27).1 = ref21_SameMarks.A by kernel_rfl, show (pol.ann 27).2 = ref21_SameMarks.an by kernel_rfl, body_real _ _ (by kernel_rfl)]; exact he) hw hro
noncomputable abbrev ref21_Base.JD (n : Nat) : Jn (AEnd × H) := ref21_Base.J D n
theorem ref21_Base.fx (n : Nat) : ref21_Base.F D n (ref21_Base.JD n) := realJ_fix
theorem ref21_Base.den (n : Nat) {x0 : AV} {h h' : H} {v : AV} (hp : pureL [x0] = true) (he : ref21_Base.f (ref21_Base.JD n) x0 [] = some (.ret v, h')) (hw : v.pure = true) (hro : retOk Try.f28 (.ret v) = true) : D n_warrantorref21_Base [x0] h = some (.ret v, h) :=
  den_val0 (by kernel_rfl) Try.func28 (c := ref21_Base.c) (by kernel_rfl) (by kernel_rfl) (by kernel_rfl) n hp (by rw [show (pol.ann 28).1 = ref21_Base.A by kernel_rfl, show (pol.ann 28).2 = ref21_Base.an by kernel_rfl, body_real _ _ (by kernel_rfl)]; exact he) hw hro
noncomputable abbrev ref25_Has.JD (n : Nat) : Jn (AEnd × H) := ref25_Has.J D n
theorem ref25_Has.fx (n : Nat) : ref25_Has.F D n (ref25_Has.JD n) := realJ_fix
theorem ref25_Has.den (n : Nat) {x0 x1 : AV} {h h' : H} {v : AV} (hp : pureL [x0, x1] = true) (he : ref25_Has.f (ref25_Has.JD n) x0 x1 [] = some (.ret v, h')) (hw : v.pure = true) (hro : retOk Try.f29 (.ret v) = true) : D n_warrantorref25_Has [x0, x1] h = some (.ret v, h) :=
  den_val0 (by kernel_rfl) Try.func29 (c := ref25_Has.c) (by kernel_rfl) (by kernel_rfl) (by kernel_rfl) n hp (by rw [show (pol.ann 29).1 = ref25_Has.A by kernel_rfl, show (pol.ann 29).2 = ref25_Has.an by kernel_rfl, body_real _ _ (by kernel_rfl)]; exact he) hw hro
noncomputable abbrev ref25_Union.JD (n : Nat) : Jn (AEnd × H) := ref25_Union.J D n
theorem ref25_Union.fx (n : Nat) : ref25_Union.F D n (ref25_Union.JD n) := realJ_fix
theorem ref25_Union.den (n : Nat) {x0 x1 : AV} {h h' : H} {v : AV} (hp : pureL [x0, x1] = true) (he : ref25_Union.f (ref25_Union.JD n) x0 x1 [] = some (.ret v, h')) (hw : v.pure = true) (hro : retOk Try.f30 (.ret v) = true) : D n_warrantorref25_Union [x0, x1] h = some (.ret v, h) :=
  den_val0 (by kernel_rfl) Try.func30 (c := ref25_Union.c) (by kernel_rfl) (by kernel_rfl) (by kernel_rfl) n hp (by rw [show (pol.ann 30).1 = ref25_Union.A by kernel_rfl, show (pol.ann 30).2 = ref25_Union.an by kernel_rfl, body_real _ _ (by kernel_rfl)]; exact he) hw hro
noncomputable abbrev ref25_Less.JD (n : Nat) : Jn (AEnd × H) := ref25_Less.J D n
theorem ref25_Less.fx (n : Nat) : ref25_Less.F D n (ref25_Less.JD n) := realJ_fix
theorem ref25_Less.den (n : Nat) {x0 x1 : AV} {h h' : H} {v : AV} (hp : pureL [x0, x1] = true) (he : ref25_Less.f (ref25_Less.JD n) x0 x1 [] = some (.ret v, h')) (hw : v.pure = true) (hro : retOk Try.f31 (.ret v) = true) : D n_warrantorref25_Less [x0, x1] h = some (.ret v, h) :=
  den_val0 (by kernel_rfl) Try.func31 (c := ref25_Less.c) (by kernel_rfl) (by kernel_rfl) (by kernel_rfl) n hp (by rw [show (pol.ann 31).1 = ref25_Less.A by kernel_rfl, show (pol.ann 31).2 = ref25_Less.an by kernel_rfl, body_real _ _ (by kernel_rfl)]; exact he) hw hro
noncomputable abbrev ref17_Cmp.JD (n : Nat) : Jn (AEnd × H) := ref17_Cmp.J D n
theorem ref17_Cmp.fx (n : Nat) : ref17_Cmp.F D n (ref17_Cmp.JD n) := realJ_fix
theorem ref17_Cmp.den (n : Nat) {x0 x1 : AV} {h h' : H} {v : AV} (hp : pureL [x0, x1] = true) (he : ref17_Cmp.f (ref17_Cmp.JD n) x0 x1 [] = some (.ret v, h')) (hw : v.pure = true) (hro : retOk Try.f32 (.ret v) = true) : D n_warrantorref17_Cmp [x0, x1] h = some (.ret v, h) :=
  den_val0 (by kernel_rfl) Try.func32 (c := ref17_Cmp.c) (by kernel_rfl) (by kernel_rfl) (by kernel_rfl) n hp (by rw [show (pol.ann 32).1 = ref17_Cmp.A by kernel_rfl, show (pol.ann 32).2 = ref17_Cmp.an by kernel_rfl, body_real _ _ (by kernel_rfl)]; exact he) hw hro
noncomputable abbrev ref20_key.JD (n : Nat) : Jn (AEnd × H) := ref20_key.J D n
theorem ref20_key.fx (n : Nat) : ref20_key.F D n (ref20_key.JD n) := realJ_fix
theorem ref20_key.den (n : Nat) {x0 : AV} {h h' : H} {v : AV} (hp : pureL [x0] = true) (he : ref20_key.f (ref20_key.JD n) x0 [] = some (.ret v, h')) (hw : v.pure = true) (hro : retOk Try.f33 (.ret v) = true) : D n_warrantorref20_key [x0] h = some (.ret v, h) :=
  den_val0 (by kernel_rfl) Try.func33 (c := ref20_key.c) (by kernel_rfl) (by kernel_rfl) (by kernel_rfl) n hp (by rw [show (pol.ann 33).1 = ref20_key.A by kernel_rfl, show (pol.ann 33).2 = ref20_key.an by kernel_rfl, body_real _ _ (by kernel_rfl)]; exact he) hw hro
noncomputable abbrev fnv_More.JD (n : Nat) : Jn (AEnd × H) := fnv_More.J D n
theorem fnv_More.fx (n : Nat) : fnv_More.F D n (fnv_More.JD n) := realJ_fix
theorem fnv_More.den (n : Nat) {x0 x1 : AV} {h h' : H} {v : AV} (hp : pureL [x0, x1] = true) (he : fnv_More.f (fnv_More.JD n) x0 x1 [] = some (.ret v, h')) (hw : v.pure = true) (hro : retOk Try.f34 (.ret v) = true) : D n_fnv_More [x0, x1] h = some (.ret v, h) :=
  den_val0 (by kernel_rfl) Try.func34 (c := fnv_More.c) (by kernel_rfl) (by kernel_rfl) (by kernel_rfl) n hp (by rw [show (pol.ann 34).1 = fnv_More.A by kernel_rfl, show (pol.ann 34).2 = fnv_More.an by kernel_rfl, body_real _ _ (by kernel_rfl)]; exact he) hw hro
noncomputable abbrev fnv_Sum.JD (n : Nat) : Jn (AEnd × H) := fnv_Sum.J D n
theorem fnv_Sum.fx (n : Nat) : fnv_Sum.F D n (fnv_Sum.JD n) := realJ_fix
theorem fnv_Sum.den (n : Nat) {x0 : AV} {h h' : H} {v : AV} (hp : pureL [x0] = true) (he : fnv_Sum.f (fnv_Sum.JD n) x0 [] = some (.ret v, h')) (hw : v.pure = true) (hro : retOk Try.f35 (.ret v) = true) : D n_fnv_Sum [x0] h = some (.ret v, h) :=
  den_val0 (by kernel_rfl) Try.func35 (c := fnv_Sum.c) (by kernel_rfl) (by kernel_rfl) (by kernel_rfl) n hp (by rw [show (pol.ann 35).1 = fnv_Sum.A by kernel_rfl, show (pol.ann 35).2 = fnv_Sum.an by kernel_rfl, body_real _ _ (by kernel_rfl)]; exact he) hw hro
noncomputable abbrev finger_key.JD (n : Nat) : Jn (AEnd × H) := finger_key.J D n
theorem finger_key.fx (n : Nat) : finger_key.F D n (finger_key.JD n) := realJ_fix
theorem finger_key.den (n : Nat) {x0 : AV} {h h' : H} {v : AV} (hp : pureL [x0] = true) (he : finger_key.f (finger_key.JD n) x0 [] = some (.ret v, h')) (hw : v.pure = true) (hro : retOk Try.f36 (.ret v) = true) : D n_finger_key [x0] h = some (.ret v, h) :=
  den_val0 (by kernel_rfl) Try.func36 (c := finger_key.c) (by kernel_rfl) (by kernel_rfl) (by kernel_rfl) n hp (by rw [show (pol.ann 36).1 = finger_key.A by kernel_rfl, show (pol.ann 36).2 = finger_key.an by kernel_rfl, body_real _ _ (by kernel_rfl)]; exact he) hw hro
noncomputable abbrev leb_Put.JD (n : Nat) : Jn (AEnd × H) := leb_Put.J D n
theorem leb_Put.fx (n : Nat) : leb_Put.F D n (leb_Put.JD n) := realJ_fix
theorem leb_Put.den (n : Nat) {x0 : AV} {h h' : H} {v : AV} (hp : pureL [x0] = true) (he : leb_Put.f (leb_Put.JD n) x0 [] = some (.ret v, h')) (hw : v.pure = true) (hro : retOk Try.f37 (.ret v) = true) : D n_leb_Put [x0] h = some (.ret v, h) :=
  den_val0 (by kernel_rfl) Try.func37 (c := leb_Put.c) (by kernel_rfl) (by kernel_rfl) (by kernel_rfl) n hp (by rw [show (pol.ann 37).1 = leb_Put.A by kernel_rfl, show (pol.ann 37).2 = leb_Put.an by kernel_rfl, body_real _ _ (by kernel_rfl)]; exact he) hw hro
noncomputable abbrev ref19_Sum.JD (n : Nat) : Jn (AEnd × H) := ref19_Sum.J D n
theorem ref19_Sum.fx (n : Nat) : ref19_Sum.F D n (ref19_Sum.JD n) := realJ_fix
theorem ref19_Sum.den (n : Nat) {x0 : AV} {h h' : H} {v : AV} (hp : pureL [x0] = true) (he : ref19_Sum.f (ref19_Sum.JD n) x0 [] = some (.ret v, h')) (hw : v.pure = true) (hro : retOk Try.f38 (.ret v) = true) : D n_warrantorref19_Sum [x0] h = some (.ret v, h) :=
  den_val0 (by kernel_rfl) Try.func38 (c := ref19_Sum.c) (by kernel_rfl) (by kernel_rfl) (by kernel_rfl) n hp (by rw [show (pol.ann 38).1 = ref19_Sum.A by kernel_rfl, show (pol.ann 38).2 = ref19_Sum.an by kernel_rfl, body_real _ _ (by kernel_rfl)]; exact he) hw hro
noncomputable abbrev ref02_Num.JD (n : Nat) : Jn (AEnd × H) := ref02_Num.J D n
theorem ref02_Num.fx (n : Nat) : ref02_Num.F D n (ref02_Num.JD n) := realJ_fix
theorem ref02_Num.den (n : Nat) {x0 : AV} {h h' : H} {v : AV} (hp : pureL [x0] = true) (he : ref02_Num.f (ref02_Num.JD n) x0 [] = some (.ret v, h')) (hw : v.pure = true) (hro : retOk Try.f39 (.ret v) = true) : D n_warrantorref02_Num [x0] h = some (.ret v, h) :=
  den_val0 (by kernel_rfl) Try.func39 (c := ref02_Num.c) (by kernel_rfl) (by kernel_rfl) (by kernel_rfl) n hp (by rw [show (pol.ann 39).1 = ref02_Num.A by kernel_rfl, show (pol.ann 39).2 = ref02_Num.an by kernel_rfl, body_real _ _ (by kernel_rfl)]; exact he) hw hro
noncomputable abbrev slices_SortStableFunc_int_int.JD (n : Nat) : Jn (AEnd × H) := slices_SortStableFunc_int_int.J D n
theorem slices_SortStableFunc_int_int.fx (n : Nat) : slices_SortStableFunc_int_int.F D n (slices_SortStableFunc_int_int.JD n) := realJ_fix
theorem slices_SortStableFunc_int_int.den (n : Nat) {x0 x1 : AV} {h h' : H} {r : AEnd} (he : slices_SortStableFunc_int_int.f (slices_SortStableFunc_int_int.JD n) x0 x1 h = some (r, h')) (hro : retOk Try.f40 r = true) : D n_slices_SortStableFunc_int_int [x0, x1] h = some (r, h') :=
  den_at (by kernel_rfl) Try.func40 (c := slices_SortStableFunc_int_int.c) (by kernel_rfl) (ne0 (by kernel_rfl)) (by kernel_rfl) n (by rw [show (pol.ann 40).1 = slices_SortStableFunc_int_int.A by kernel_rfl, show (pol.ann 40).2 = slices_SortStableFunc_int_int.an by kernel_rfl, body_real _ _ (by kernel_rfl)]; exact he) hro
noncomputable abbrev finger_Ranks_c1.JD (n : Nat) : Jn (AEnd × H) := finger_Ranks_c1.J D n
theorem finger_Ranks_c1.fx (n : Nat) : finger_Ranks_c1.F D n (finger_Ranks_c1.JD n) := realJ_fix
theorem finger_Ranks_c1.den (n : Nat) {x0 x1 x2 : AV} {h h' : H} {r : AEnd} (he : finger_Ranks_c1.f (finger_Ranks_c1.JD n) x0 x1 x2 h = some (r, h')) (hro : retOk Try.f41 r = true) : D n_finger_Ranks_c1 [x0, x1, x2] h = some (r, h') :=
  den_at (by kernel_rfl) Try.func41 (c := finger_Ranks_c1.c) (by kernel_rfl) (ne0 (by kernel_rfl)) (by kernel_rfl) n (by rw [show (pol.ann 41).1 = finger_Ranks_c1.A by kernel_rfl, show (pol.ann 41).2 = finger_Ranks_c1.an by kernel_rfl, body_real _ _ (by kernel_rfl)]; exact he) hro
noncomputable abbrev alarm_Cmp.JD (n : Nat) : Jn (AEnd × H) := alarm_Cmp.J D n
theorem alarm_Cmp.fx (n : Nat) : alarm_Cmp.F D n (alarm_Cmp.JD n) := realJ_fix
theorem alarm_Cmp.den (n : Nat) {x0 x1 : AV} {h h' : H} {v : AV} (hp : pureL [x0, x1] = true) (he : alarm_Cmp.f (alarm_Cmp.JD n) x0 x1 [] = some (.ret v, h')) (hw : v.pure = true) (hro : retOk Try.f42 (.ret v) = true) : D n_alarm_Cmp [x0, x1] h = some (.ret v, h) :=
  den_val0 (by kernel_rfl) Try.func42 (c := alarm_Cmp.c) (by kernel_rfl) (by kernel_rfl) (by kernel_rfl) n hp (by rw [show (pol.ann 42).1 = alarm_Cmp.A by kernel_rfl, show (pol.ann 42).2 = alarm_Cmp.an by kernel_rfl, body_real _ _ (by kernel_rfl)]; exact he) hw hro
noncomputable abbrev ref18_word.JD (n : Nat) : Jn (AEnd × H) := ref18_word.J D n
theorem ref18_word.fx (n : Nat) : ref18_word.F D n (ref18_word.JD n) := realJ_fix
theorem ref18_word.den (n : Nat) {x0 : AV} {h h' : H} {v : AV} (hp : pureL [x0] = true) (he : ref18_word.f (ref18_word.JD n) x0 [] = some (.ret v, h')) (hw : v.pure = true) (hro : retOk Try.f44 (.ret v) = true) : D n_warrantorref18_word [x0] h = some (.ret v, h) :=
  den_val0 (by kernel_rfl) Try.func44 (c := ref18_word.c) (by kernel_rfl) (by kernel_rfl) (by kernel_rfl) n hp (by rw [show (pol.ann 44).1 = ref18_word.A by kernel_rfl, show (pol.ann 44).2 = ref18_word.an by kernel_rfl, body_real _ _ (by kernel_rfl)]; exact he) hw hro
noncomputable abbrev base_Match.JD (n : Nat) : Jn (AEnd × H) := base_Match.J D n
theorem base_Match.fx (n : Nat) : base_Match.F D n (base_Match.JD n) := realJ_fix
theorem base_Match.den (n : Nat) {x0 x1 : AV} {h h' : H} {v : AV} (hp : pureL [x0, x1] = true) (he : base_Match.f (base_Match.JD n) x0 x1 [] = some (.ret v, h')) (hw : v.pure = true) (hro : retOk Try.f45 (.ret v) = true) : D n_base_Match [x0, x1] h = some (.ret v, h) :=
  den_val0 (by kernel_rfl) Try.func45 (c := base_Match.c) (by kernel_rfl) (by kernel_rfl) (by kernel_rfl) n hp (by rw [show (pol.ann 45).1 = base_Match.A by kernel_rfl, show (pol.ann 45).2 = base_Match.an by kernel_rfl, body_real _ _ (by kernel_rfl)]; exact he) hw hro
noncomputable abbrev base_Of.JD (n : Nat) : Jn (AEnd × H) := base_Of.J D n
theorem base_Of.fx (n : Nat) : base_Of.F D n (base_Of.JD n) := realJ_fix
theorem base_Of.den (n : Nat) {x0 x1 : AV} {h h' : H} {v : AV} (hp : pureL [x0, x1] = true) (he : base_Of.f (base_Of.JD n) x0 x1 [] = some (.ret v, h')) (hw : v.pure = true) (hro : retOk Try.f46 (.ret v) = true) : D n_base_Of [x0, x1] h = some (.ret v, h) :=
  den_val0 (by kernel_rfl) Try.func46 (c := base_Of.c) (by kernel_rfl) (by kernel_rfl) (by kernel_rfl) n hp (by rw [show (pol.ann 46).1 = base_Of.A by kernel_rfl, show (pol.ann 46).2 = base_Of.an by kernel_rfl, body_real _ _ (by kernel_rfl)]; exact he) hw hro
noncomputable abbrev base_both.JD (n : Nat) : Jn (AEnd × H) := base_both.J D n
theorem base_both.fx (n : Nat) : base_both.F D n (base_both.JD n) := realJ_fix
theorem base_both.den (n : Nat) {x0 x1 : AV} {h h' : H} {v : AV} (hp : pureL [x0, x1] = true) (he : base_both.f (base_both.JD n) x0 x1 [] = some (.ret v, h')) (hw : v.pure = true) (hro : retOk Try.f47 (.ret v) = true) : D n_base_both [x0, x1] h = some (.ret v, h) :=
  den_val0 (by kernel_rfl) Try.func47 (c := base_both.c) (by kernel_rfl) (by kernel_rfl) (by kernel_rfl) n hp (by rw [show (pol.ann 47).1 = base_both.A by kernel_rfl, show (pol.ann 47).2 = base_both.an by kernel_rfl, body_real _ _ (by kernel_rfl)]; exact he) hw hro
noncomputable abbrev base_part_api_Mark.JD (n : Nat) : Jn (AEnd × H) := base_part_api_Mark.J D n
theorem base_part_api_Mark.fx (n : Nat) : base_part_api_Mark.F D n (base_part_api_Mark.JD n) := realJ_fix
theorem base_part_api_Mark.den (n : Nat) {x0 x1 : AV} {h h' : H} {r : AEnd} (he : base_part_api_Mark.f (base_part_api_Mark.JD n) x0 x1 h = some (r, h')) (hro : retOk Try.f48 r = true) : D n_base_part_api_Mark [x0, x1] h = some (r, h') :=
  den_at (by kernel_rfl) Try.func48 (c := base_part_api_Mark.c) (by kernel_rfl) (ne0 (by kernel_rfl)) (by kernel_rfl) n (by rw [show (pol.ann 48).1 = base_part_api_Mark.A by kernel_rfl, show (pol.ann 48).2 = base_part_api_Mark.an by kernel_rfl, body_real _ _ (by kernel_rfl)]; exact he) hro
noncomputable abbrev base_Less_c1.JD (n : Nat) : Jn (AEnd × H) := base_Less_c1.J D n
theorem base_Less_c1.fx (n : Nat) : base_Less_c1.F D n (base_Less_c1.JD n) := realJ_fix
theorem base_Less_c1.den (n : Nat) {x0 x1 x2 : AV} {h h' : H} {r : AEnd} (he : base_Less_c1.f (base_Less_c1.JD n) x0 x1 x2 h = some (r, h')) (hro : retOk Try.f49 r = true) : D n_base_Less_c1 [x0, x1, x2] h = some (r, h') :=
  den_at (by kernel_rfl) Try.func49 (c := base_Less_c1.c) (by kernel_rfl) (ne0 (by kernel_rfl)) (by kernel_rfl) n (by rw [show (pol.ann 49).1 = base_Less_c1.A by kernel_rfl, show (pol.ann 49).2 = base_Less_c1.an by kernel_rfl, body_real _ _ (by kernel_rfl)]; exact he) hro
noncomputable abbrev base_search.JD (n : Nat) : Jn (AEnd × H) := base_search.J D n
theorem base_search.fx (n : Nat) : base_search.F D n (base_search.JD n) := realJ_fix
theorem base_search.den (n : Nat) {x0 x1 : AV} {h h' : H} {v : AV} (hp : pureL [x0, x1] = true) (he : base_search.f (base_search.JD n) x0 x1 [] = some (.ret v, h')) (hw : v.pure = true) (hro : retOk Try.f50 (.ret v) = true) : D n_base_search [x0, x1] h = some (.ret v, h) :=
  den_val0 (by kernel_rfl) Try.func50 (c := base_search.c) (by kernel_rfl) (by kernel_rfl) (by kernel_rfl) n hp (by rw [show (pol.ann 50).1 = base_search.A by kernel_rfl, show (pol.ann 50).2 = base_search.an by kernel_rfl, body_real _ _ (by kernel_rfl)]; exact he) hw hro
noncomputable abbrev result_Base.JD (n : Nat) : Jn (AEnd × H) := result_Base.J D n
theorem result_Base.fx (n : Nat) : result_Base.F D n (result_Base.JD n) := realJ_fix
theorem result_Base.den (n : Nat) {x0 : AV} {h h' : H} {v : AV} (hp : pureL [x0] = true) (he : result_Base.f (result_Base.JD n) x0 [] = some (.ret v, h')) (hw : v.pure = true) (hro : retOk Try.f51 (.ret v) = true) : D n_result_Base [x0] h = some (.ret v, h) :=
  den_val0 (by kernel_rfl) Try.func51 (c := result_Base.c) (by kernel_rfl) (by kernel_rfl) (by kernel_rfl) n hp (by rw [show (pol.ann 51).1 = result_Base.A by kernel_rfl, show (pol.ann 51).2 = result_Base.an by kernel_rfl, body_real _ _ (by kernel_rfl)]; exact he) hw hro
noncomputable abbrev slices_Equal_api_Mark_api_Mark.JD (n : Nat) : Jn (AEnd × H) := slices_Equal_api_Mark_api_Mark.J D n
theorem slices_Equal_api_Mark_api_Mark.fx (n : Nat) : slices_Equal_api_Mark_api_Mark.F D n (slices_Equal_api_Mark_api_Mark.JD n) := realJ_fix
theorem slices_Equal_api_Mark_api_Mark.den (n : Nat) {x0 x1 : AV} {h h' : H} {v : AV} (hp : pureL [x0, x1] = true) (he : slices_Equal_api_Mark_api_Mark.f (slices_Equal_api_Mark_api_Mark.JD n) x0 x1 [] = some (.ret v, h')) (hw : v.pure = true) (hro : retOk Try.f52 (.ret v) = true) : D n_slices_Equal_api_Mark_api_Mark [x0, x1] h = some (.ret v, h) :=
  den_val0 (by kernel_rfl) Try.func52 (c := slices_Equal_api_Mark_api_Mark.c) (by kernel_rfl) (by kernel_rfl) (by kernel_rfl) n hp (by rw [show (pol.ann 52).1 = slices_Equal_api_Mark_api_Mark.A by kernel_rfl, show (pol.ann 52).2 = slices_Equal_api_Mark_api_Mark.an by kernel_rfl, body_real _ _ (by kernel_rfl)]; exact he) hw hro
noncomputable abbrev ref21_Note.JD (n : Nat) : Jn (AEnd × H) := ref21_Note.J D n
theorem ref21_Note.fx (n : Nat) : ref21_Note.F D n (ref21_Note.JD n) := realJ_fix
theorem ref21_Note.den (n : Nat) {x0 : AV} {h h' : H} {v : AV} (hp : pureL [x0] = true) (he : ref21_Note.f (ref21_Note.JD n) x0 [] = some (.ret v, h')) (hw : v.pure = true) (hro : retOk Try.f53 (.ret v) = true) : D n_warrantorref21_Note [x0] h = some (.ret v, h) :=
  den_val0 (by kernel_rfl) Try.func53 (c := ref21_Note.c) (by kernel_rfl) (by kernel_rfl) (by kernel_rfl) n hp (by rw [show (pol.ann 53).1 = ref21_Note.A by kernel_rfl, show (pol.ann 53).2 = ref21_Note.an by kernel_rfl, body_real _ _ (by kernel_rfl)]; exact he) hw hro
noncomputable abbrev ref25_put.JD (n : Nat) : Jn (AEnd × H) := ref25_put.J D n
theorem ref25_put.fx (n : Nat) : ref25_put.F D n (ref25_put.JD n) := realJ_fix
theorem ref25_put.den (n : Nat) {x0 x1 : AV} {h h' : H} {v : AV} (hp : pureL [x0, x1] = true) (he : ref25_put.f (ref25_put.JD n) x0 x1 [] = some (.ret v, h')) (hw : v.pure = true) (hro : retOk Try.f54 (.ret v) = true) : D n_warrantorref25_put [x0, x1] h = some (.ret v, h) :=
  den_val0 (by kernel_rfl) Try.func54 (c := ref25_put.c) (by kernel_rfl) (by kernel_rfl) (by kernel_rfl) n hp (by rw [show (pol.ann 54).1 = ref25_put.A by kernel_rfl, show (pol.ann 54).2 = ref25_put.an by kernel_rfl, body_real _ _ (by kernel_rfl)]; exact he) hw hro
noncomputable abbrev ref17_sign.JD (n : Nat) : Jn (AEnd × H) := ref17_sign.J D n
theorem ref17_sign.fx (n : Nat) : ref17_sign.F D n (ref17_sign.JD n) := realJ_fix
theorem ref17_sign.den (n : Nat) {x0 x1 : AV} {h h' : H} {v : AV} (hp : pureL [x0, x1] = true) (he : ref17_sign.f (ref17_sign.JD n) x0 x1 [] = some (.ret v, h')) (hw : v.pure = true) (hro : retOk Try.f55 (.ret v) = true) : D n_warrantorref17_sign [x0, x1] h = some (.ret v, h) :=
  den_val0 (by kernel_rfl) Try.func55 (c := ref17_sign.c) (by kernel_rfl) (by kernel_rfl) (by kernel_rfl) n hp (by rw [show (pol.ann 55).1 = ref17_sign.A by kernel_rfl, show (pol.ann 55).2 = ref17_sign.an by kernel_rfl, body_real _ _ (by kernel_rfl)]; exact he) hw hro
noncomputable abbrev ref17_number.JD (n : Nat) : Jn (AEnd × H) := ref17_number.J D n
theorem ref17_number.fx (n : Nat) : ref17_number.F D n (ref17_number.JD n) := realJ_fix
theorem ref17_number.den (n : Nat) {x0 x1 : AV} {h h' : H} {v : AV} (hp : pureL [x0, x1] = true) (he : ref17_number.f (ref17_number.JD n) x0 x1 [] = some (.ret v, h')) (hw : v.pure = true) (hro : retOk Try.f56 (.ret v) = true) : D n_warrantorref17_number [x0, x1] h = some (.ret v, h) :=
  den_val0 (by kernel_rfl) Try.func56 (c := ref17_number.c) (by kernel_rfl) (by kernel_rfl) (by kernel_rfl) n hp (by rw [show (pol.ann 56).1 = ref17_number.A by kernel_rfl, show (pol.ann 56).2 = ref17_number.an by kernel_rfl, body_real _ _ (by kernel_rfl)]; exact he) hw hro
noncomputable abbrev ref18_Key.JD (n : Nat) : Jn (AEnd × H) := ref18_Key.J D n
theorem ref18_Key.fx (n : Nat) : ref18_Key.F D n (ref18_Key.JD n) := realJ_fix
theorem ref18_Key.den (n : Nat) {x0 x1 x2 : AV} {h h' : H} {v : AV} (hp : pureL [x0, x1, x2] = true) (he : ref18_Key.f (ref18_Key.JD n) x0 x1 x2 [] = some (.ret v, h')) (hw : v.pure = true) (hro : retOk Try.f57 (.ret v) = true) : D n_warrantorref18_Key [x0, x1, x2] h = some (.ret v, h) :=
  den_val0 (by kernel_rfl) Try.func57 (c := ref18_Key.c) (by kernel_rfl) (by kernel_rfl) (by kernel_rfl) n hp (by rw [show (pol.ann 57).1 = ref18_Key.A by kernel_rfl, show (pol.ann 57).2 = ref18_Key.an by kernel_rfl, body_real _ _ (by kernel_rfl)]; exact he) hw hro
noncomputable abbrev norm_Key.JD (n : Nat) : Jn (AEnd × H) := norm_Key.J D n
theorem norm_Key.fx (n : Nat) : norm_Key.F D n (norm_Key.JD n) := realJ_fix
theorem norm_Key.den (n : Nat) {x0 x1 x2 : AV} {h h' : H} {v : AV} (hp : pureL [x0, x1, x2] = true) (he : norm_Key.f (norm_Key.JD n) x0 x1 x2 [] = some (.ret v, h')) (hw : v.pure = true) (hro : retOk Try.f58 (.ret v) = true) : D n_norm_Key [x0, x1, x2] h = some (.ret v, h) :=
  den_val0 (by kernel_rfl) Try.func58 (c := norm_Key.c) (by kernel_rfl) (by kernel_rfl) (by kernel_rfl) n hp (by rw [show (pol.ann 58).1 = norm_Key.A by kernel_rfl, show (pol.ann 58).2 = norm_Key.an by kernel_rfl, body_real _ _ (by kernel_rfl)]; exact he) hw hro
noncomputable abbrev ref19_More.JD (n : Nat) : Jn (AEnd × H) := ref19_More.J D n
theorem ref19_More.fx (n : Nat) : ref19_More.F D n (ref19_More.JD n) := realJ_fix
theorem ref19_More.den (n : Nat) {x0 x1 : AV} {h h' : H} {v : AV} (hp : pureL [x0, x1] = true) (he : ref19_More.f (ref19_More.JD n) x0 x1 [] = some (.ret v, h')) (hw : v.pure = true) (hro : retOk Try.f59 (.ret v) = true) : D n_warrantorref19_More [x0, x1] h = some (.ret v, h) :=
  den_val0 (by kernel_rfl) Try.func59 (c := ref19_More.c) (by kernel_rfl) (by kernel_rfl) (by kernel_rfl) n hp (by rw [show (pol.ann 59).1 = ref19_More.A by kernel_rfl, show (pol.ann 59).2 = ref19_More.an by kernel_rfl, body_real _ _ (by kernel_rfl)]; exact he) hw hro
noncomputable abbrev ref01_Put.JD (n : Nat) : Jn (AEnd × H) := ref01_Put.J D n
theorem ref01_Put.fx (n : Nat) : ref01_Put.F D n (ref01_Put.JD n) := realJ_fix
theorem ref01_Put.den (n : Nat) {x0 : AV} {h h' : H} {v : AV} (hp : pureL [x0] = true) (he : ref01_Put.f (ref01_Put.JD n) x0 [] = some (.ret v, h')) (hw : v.pure = true) (hro : retOk Try.f60 (.ret v) = true) : D n_warrantorref01_Put [x0] h = some (.ret v, h) :=
  den_val0 (by kernel_rfl) Try.func60 (c := ref01_Put.c) (by kernel_rfl) (by kernel_rfl) (by kernel_rfl) n hp (by rw [show (pol.ann 60).1 = ref01_Put.A by kernel_rfl, show (pol.ann 60).2 = ref01_Put.an by kernel_rfl, body_real _ _ (by kernel_rfl)]; exact he) hw hro
noncomputable abbrev slices_stableCmpFunc_int.JD (n : Nat) : Jn (AEnd × H) := slices_stableCmpFunc_int.J D n
theorem slices_stableCmpFunc_int.fx (n : Nat) : slices_stableCmpFunc_int.F D n (slices_stableCmpFunc_int.JD n) := realJ_fix
theorem slices_stableCmpFunc_int.den (n : Nat) {x0 x1 x2 : AV} {h h' : H} {r : AEnd} (he : slices_stableCmpFunc_int.f (slices_stableCmpFunc_int.JD n) x0 x1 x2 h = some (r, h')) (hro : retOk Try.f61 r = true) : D n_slices_stableCmpFunc_int [x0, x1, x2] h = some (r, h') :=
  den_at (by kernel_rfl) Try.func61 (c := slices_stableCmpFunc_int.c) (by kernel_rfl) (ne0 (by kernel_rfl)) (by kernel_rfl) n (by rw [show (pol.ann 61).1 = slices_stableCmpFunc_int.A by kernel_rfl, show (pol.ann 61).2 = slices_stableCmpFunc_int.an by kernel_rfl, body_real _ _ (by kernel_rfl)]; exact he) hro
noncomputable abbrev alarm_compares.JD (n : Nat) : Jn (AEnd × H) := alarm_compares.J D n
theorem alarm_compares.fx (n : Nat) : alarm_compares.F D n (alarm_compares.JD n) := realJ_fix
theorem alarm_compares.den (n : Nat) {h h' : H} {r : AEnd} (he : alarm_compares.f (alarm_compares.JD n)  h = some (r, h')) (hro : retOk Try.f62 r = true) : D n_alarm_compares [] h = some (r, h') :=
  den_at (by kernel_rfl) Try.func62 (c := alarm_compares.c) (by kernel_rfl) (ne0 (by kernel_rfl)) (by kernel_rfl) n (by rw [show (pol.ann 62).1 = alarm_compares.A by kernel_rfl, show (pol.ann 62).2 = alarm_compares.an by kernel_rfl, body_real _ _ (by kernel_rfl)]; exact he) hro
noncomputable abbrev ref11_Name.JD (n : Nat) : Jn (AEnd × H) := ref11_Name.J D n
theorem ref11_Name.fx (n : Nat) : ref11_Name.F D n (ref11_Name.JD n) := realJ_fix
theorem ref11_Name.den (n : Nat) {x0 : AV} {h h' : H} {v : AV} (hp : pureL [x0] = true) (he : ref11_Name.f (ref11_Name.JD n) x0 [] = some (.ret v, h')) (hw : v.pure = true) (hro : retOk Try.f63 (.ret v) = true) : D n_warrantorref11_Name [x0] h = some (.ret v, h) :=
  den_val0 (by kernel_rfl) Try.func63 (c := ref11_Name.c) (by kernel_rfl) (by kernel_rfl) (by kernel_rfl) n hp (by rw [show (pol.ann 63).1 = ref11_Name.A by kernel_rfl, show (pol.ann 63).2 = ref11_Name.an by kernel_rfl, body_real _ _ (by kernel_rfl)]; exact he) hw hro
noncomputable abbrev base_part_api_Alarm.JD (n : Nat) : Jn (AEnd × H) := base_part_api_Alarm.J D n
theorem base_part_api_Alarm.fx (n : Nat) : base_part_api_Alarm.F D n (base_part_api_Alarm.JD n) := realJ_fix
theorem base_part_api_Alarm.den (n : Nat) {x0 x1 : AV} {h h' : H} {r : AEnd} (he : base_part_api_Alarm.f (base_part_api_Alarm.JD n) x0 x1 h = some (r, h')) (hro : retOk Try.f64 r = true) : D n_base_part_api_Alarm [x0, x1] h = some (r, h') :=
  den_at (by kernel_rfl) Try.func64 (c := base_part_api_Alarm.c) (by kernel_rfl) (ne0 (by kernel_rfl)) (by kernel_rfl) n (by rw [show (pol.ann 64).1 = base_part_api_Alarm.A by kernel_rfl, show (pol.ann 64).2 = base_part_api_Alarm.an by kernel_rfl, body_real _ _ (by kernel_rfl)]; exact he) hro
noncomputable abbrev base_Match_c1.JD (n : Nat) : Jn (AEnd × H) := base_Match_c1.J D n
theorem base_Match_c1.fx (n : Nat) : base_Match_c1.F D n (base_Match_c1.JD n) := realJ_fix
theorem base_Match_c1.den (n : Nat) {x0 x1 x2 x3 x4 : AV} {h h' : H} {r : AEnd} (he : base_Match_c1.f (base_Match_c1.JD n) x0 x1 x2 x3 x4 h = some (r, h')) (hro : retOk Try.f65 r = true) : D n_base_Match_c1 [x0, x1, x2, x3, x4] h = some (r, h') :=
  den_at (by kernel_rfl) Try.func65 (c := base_Match_c1.c) (by kernel_rfl) (ne0 (by kernel_rfl)) (by kernel_rfl) n (by rw [show (pol.ann 65).1 = base_Match_c1.A by kernel_rfl, show (pol.ann 65).2 = base_Match_c1.an by kernel_rfl, body_real _ _ (by kernel_rfl)]; exact he) hro
noncomputable abbrev base_Match_c2.JD (n : Nat) : Jn (AEnd × H) := base_Match_c2.J D n
theorem base_Match_c2.fx (n : Nat) : base_Match_c2.F D n (base_Match_c2.JD n) := realJ_fix
theorem base_Match_c2.den (n : Nat) {x0 x1 x2 : AV} {h h' : H} {r : AEnd} (he : base_Match_c2.f (base_Match_c2.JD n) x0 x1 x2 h = some (r, h')) (hro : retOk Try.f66 r = true) : D n_base_Match_c2 [x0, x1, x2] h = some (r, h') :=
  den_at (by kernel_rfl) Try.func66 (c := base_Match_c2.c) (by kernel_rfl) (ne0 (by kernel_rfl)) (by kernel_rfl) n (by rw [show (pol.ann 66).1 = base_Match_c2.A by kernel_rfl, show (pol.ann 66).2 = base_Match_c2.an by kernel_rfl, body_real _ _ (by kernel_rfl)]; exact he) hro
noncomputable abbrev slices_Sort_uint64_uint64.JD (n : Nat) : Jn (AEnd × H) := slices_Sort_uint64_uint64.J D n
theorem slices_Sort_uint64_uint64.fx (n : Nat) : slices_Sort_uint64_uint64.F D n (slices_Sort_uint64_uint64.JD n) := realJ_fix
theorem slices_Sort_uint64_uint64.den (n : Nat) {x0 : AV} {h h' : H} {v : AV} (hp : pureL [x0] = true) (he : slices_Sort_uint64_uint64.f (slices_Sort_uint64_uint64.JD n) x0 [] = some (.ret v, h')) (hw : v.pure = true) (hro : retOk Try.f67 (.ret v) = true) : D n_slices_Sort_uint64_uint64 [x0] h = some (.ret v, h) :=
  den_val0 (by kernel_rfl) Try.func67 (c := slices_Sort_uint64_uint64.c) (by kernel_rfl) (by kernel_rfl) (by kernel_rfl) n hp (by rw [show (pol.ann 67).1 = slices_Sort_uint64_uint64.A by kernel_rfl, show (pol.ann 67).2 = slices_Sort_uint64_uint64.an by kernel_rfl, body_real _ _ (by kernel_rfl)]; exact he) hw hro
noncomputable abbrev slices_BinarySearchFunc_api_Mark_api_Mark_uint64.JD (n : Nat) : Jn (AEnd × H) := slices_BinarySearchFunc_api_Mark_api_Mark_uint64.J D n
theorem slices_BinarySearchFunc_api_Mark_api_Mark_uint64.fx (n : Nat) : slices_BinarySearchFunc_api_Mark_api_Mark_uint64.F D n (slices_BinarySearchFunc_api_Mark_api_Mark_uint64.JD n) := realJ_fix
theorem slices_BinarySearchFunc_api_Mark_api_Mark_uint64.den (n : Nat) {x0 x1 x2 : AV} {h h' : H} {r : AEnd} (he : slices_BinarySearchFunc_api_Mark_api_Mark_uint64.f (slices_BinarySearchFunc_api_Mark_api_Mark_uint64.JD n) x0 x1 x2 h = some (r, h')) (hro : retOk Try.f69 r = true) : D n_slices_BinarySearchFunc_api_Mark_api_Mark_uint64 [x0, x1, x2] h = some (r, h') :=
  den_at (by kernel_rfl) Try.func69 (c := slices_BinarySearchFunc_api_Mark_api_Mark_uint64.c) (by kernel_rfl) (ne0 (by kernel_rfl)) (by kernel_rfl) n (by rw [show (pol.ann 69).1 = slices_BinarySearchFunc_api_Mark_api_Mark_uint64.A by kernel_rfl, show (pol.ann 69).2 = slices_BinarySearchFunc_api_Mark_api_Mark_uint64.an by kernel_rfl, body_real _ _ (by kernel_rfl)]; exact he) hro
noncomputable abbrev base_search_c1.JD (n : Nat) : Jn (AEnd × H) := base_search_c1.J D n
theorem base_search_c1.fx (n : Nat) : base_search_c1.F D n (base_search_c1.JD n) := realJ_fix
theorem base_search_c1.den (n : Nat) {x0 x1 : AV} {h h' : H} {v : AV} (hp : pureL [x0, x1] = true) (he : base_search_c1.f (base_search_c1.JD n) x0 x1 [] = some (.ret v, h')) (hw : v.pure = true) (hro : retOk Try.f70 (.ret v) = true) : D n_base_search_c1 [x0, x1] h = some (.ret v, h) :=
  den_val0 (by kernel_rfl) Try.func70 (c := base_search_c1.c) (by kernel_rfl) (by kernel_rfl) (by kernel_rfl) n hp (by rw [show (pol.ann 70).1 = base_search_c1.A by kernel_rfl, show (pol.ann 70).2 = base_search_c1.an by kernel_rfl, body_real _ _ (by kernel_rfl)]; exact he) hw hro
noncomputable abbrev cmp_Compare_uint64.JD (n : Nat) : Jn (AEnd × H) := cmp_Compare_uint64.J D n
theorem cmp_Compare_uint64.fx (n : Nat) : cmp_Compare_uint64.F D n (cmp_Compare_uint64.JD n) := realJ_fix
theorem cmp_Compare_uint64.den (n : Nat) {x0 x1 : AV} {h h' : H} {v : AV} (hp : pureL [x0, x1] = true) (he : cmp_Compare_uint64.f (cmp_Compare_uint64.JD n) x0 x1 [] = some (.ret v, h')) (hw : v.pure = true) (hro : retOk Try.f71 (.ret v) = true) : D n_cmp_Compare_uint64 [x0, x1] h = some (.ret v, h) :=
  den_val0 (by kernel_rfl) Try.func71 (c := cmp_Compare_uint64.c) (by kernel_rfl) (by kernel_rfl) (by kernel_rfl) n hp (by rw [show (pol.ann 71).1 = cmp_Compare_uint64.A by kernel_rfl, show (pol.ann 71).2 = cmp_Compare_uint64.an by kernel_rfl, body_real _ _ (by kernel_rfl)]; exact he) hw hro
noncomputable abbrev result_note.JD (n : Nat) : Jn (AEnd × H) := result_note.J D n
theorem result_note.fx (n : Nat) : result_note.F D n (result_note.JD n) := realJ_fix
theorem result_note.den (n : Nat) {x0 : AV} {h h' : H} {v : AV} (hp : pureL [x0] = true) (he : result_note.f (result_note.JD n) x0 [] = some (.ret v, h')) (hw : v.pure = true) (hro : retOk Try.f72 (.ret v) = true) : D n_result_note [x0] h = some (.ret v, h) :=
  den_val0 (by kernel_rfl) Try.func72 (c := result_note.c) (by kernel_rfl) (by kernel_rfl) (by kernel_rfl) n hp (by rw [show (pol.ann 72).1 = result_note.A by kernel_rfl, show (pol.ann 72).2 = result_note.an by kernel_rfl, body_real _ _ (by kernel_rfl)]; exact he) hw hro
noncomputable abbrev ref17_Expr.JD (n : Nat) : Jn (AEnd × H) := ref17_Expr.J D n
theorem ref17_Expr.fx (n : Nat) : ref17_Expr.F D n (ref17_Expr.JD n) := realJ_fix
theorem ref17_Expr.den (n : Nat) {x0 : AV} {h h' : H} {v : AV} (hp : pureL [x0] = true) (he : ref17_Expr.f (ref17_Expr.JD n) x0 [] = some (.ret v, h')) (hw : v.pure = true) (hro : retOk Try.f73 (.ret v) = true) : D n_warrantorref17_Expr [x0] h = some (.ret v, h) :=
  den_val0 (by kernel_rfl) Try.func73 (c := ref17_Expr.c) (by kernel_rfl) (by kernel_rfl) (by kernel_rfl) n hp (by rw [show (pol.ann 73).1 = ref17_Expr.A by kernel_rfl, show (pol.ann 73).2 = ref17_Expr.an by kernel_rfl, body_real _ _ (by kernel_rfl)]; exact he) hw hro
noncomputable abbrev ref02_Text.JD (n : Nat) : Jn (AEnd × H) := ref02_Text.J D n
theorem ref02_Text.fx (n : Nat) : ref02_Text.F D n (ref02_Text.JD n) := realJ_fix
theorem ref02_Text.den (n : Nat) {x0 : AV} {h h' : H} {v : AV} (hp : pureL [x0] = true) (he : ref02_Text.f (ref02_Text.JD n) x0 [] = some (.ret v, h')) (hw : v.pure = true) (hro : retOk Try.f74 (.ret v) = true) : D n_warrantorref02_Text [x0] h = some (.ret v, h) :=
  den_val0 (by kernel_rfl) Try.func74 (c := ref02_Text.c) (by kernel_rfl) (by kernel_rfl) (by kernel_rfl) n hp (by rw [show (pol.ann 74).1 = ref02_Text.A by kernel_rfl, show (pol.ann 74).2 = ref02_Text.an by kernel_rfl, body_real _ _ (by kernel_rfl)]; exact he) hw hro
noncomputable abbrev cur_New.JD (n : Nat) : Jn (AEnd × H) := cur_New.J D n
theorem cur_New.fx (n : Nat) : cur_New.F D n (cur_New.JD n) := realJ_fix
theorem cur_New.den (n : Nat) {h h' : H} {r : AEnd} (he : cur_New.f (cur_New.JD n)  h = some (r, h')) (hro : retOk Try.f75 r = true) : D n_cur_New [] h = some (r, h') :=
  den_at (by kernel_rfl) Try.func75 (c := cur_New.c) (by kernel_rfl) (ne0 (by kernel_rfl)) (by kernel_rfl) n (by rw [show (pol.ann 75).1 = cur_New.A by kernel_rfl, show (pol.ann 75).2 = cur_New.an by kernel_rfl, body_real _ _ (by kernel_rfl)]; exact he) hro
noncomputable abbrev cur_Pen_U.JD (n : Nat) : Jn (AEnd × H) := cur_Pen_U.J D n
theorem cur_Pen_U.fx (n : Nat) : cur_Pen_U.F D n (cur_Pen_U.JD n) := realJ_fix
theorem cur_Pen_U.den (n : Nat) {x0 x1 : AV} {h h' : H} {r : AEnd} (he : cur_Pen_U.f (cur_Pen_U.JD n) x0 x1 h = some (r, h')) (hro : retOk Try.f76 r = true) : D n_cur_Pen_U [x0, x1] h = some (r, h') :=
  den_at (by kernel_rfl) Try.func76 (c := cur_Pen_U.c) (by kernel_rfl) (ne0 (by kernel_rfl)) (by kernel_rfl) n (by rw [show (pol.ann 76).1 = cur_Pen_U.A by kernel_rfl, show (pol.ann 76).2 = cur_Pen_U.an by kernel_rfl, body_real _ _ (by kernel_rfl)]; exact he) hro
noncomputable abbrev cur_Pen_Text.JD (n : Nat) : Jn (AEnd × H) := cur_Pen_Text.J D n
theorem cur_Pen_Text.fx (n : Nat) : cur_Pen_Text.F D n (cur_Pen_Text.JD n) := realJ_fix
theorem cur_Pen_Text.den (n : Nat) {x0 x1 : AV} {h h' : H} {r : AEnd} (he : cur_Pen_Text.f (cur_Pen_Text.JD n) x0 x1 h = some (r, h')) (hro : retOk Try.f77 r = true) : D n_cur_Pen_Text [x0, x1] h = some (r, h') :=
  den_at (by kernel_rfl) Try.func77 (c := cur_Pen_Text.c) (by kernel_rfl) (ne0 (by kernel_rfl)) (by kernel_rfl) n (by rw [show (pol.ann 77).1 = cur_Pen_Text.A by kernel_rfl, show (pol.ann 77).2 = cur_Pen_Text.an by kernel_rfl, body_real _ _ (by kernel_rfl)]; exact he) hro
noncomputable abbrev cur_Pen_Bytes.JD (n : Nat) : Jn (AEnd × H) := cur_Pen_Bytes.J D n
theorem cur_Pen_Bytes.fx (n : Nat) : cur_Pen_Bytes.F D n (cur_Pen_Bytes.JD n) := realJ_fix
theorem cur_Pen_Bytes.den (n : Nat) {x0 : AV} {h h' : H} {r : AEnd} (he : cur_Pen_Bytes.f (cur_Pen_Bytes.JD n) x0 h = some (r, h')) (hro : retOk Try.f79 r = true) : D n_cur_Pen_Bytes [x0] h = some (r, h') :=
  den_at (by kernel_rfl) Try.func79 (c := cur_Pen_Bytes.c) (by kernel_rfl) (ne0 (by kernel_rfl)) (by kernel_rfl) n (by rw [show (pol.ann 79).1 = cur_Pen_Bytes.A by kernel_rfl, show (pol.ann 79).2 = cur_Pen_Bytes.an by kernel_rfl, body_real _ _ (by kernel_rfl)]; exact he) hro
noncomputable abbrev slices_insertionSortCmpFunc_int.JD (n : Nat) : Jn (AEnd × H) := slices_insertionSortCmpFunc_int.J D n
theorem slices_insertionSortCmpFunc_int.fx (n : Nat) : slices_insertionSortCmpFunc_int.F D n (slices_insertionSortCmpFunc_int.JD n) := realJ_fix
theorem slices_insertionSortCmpFunc_int.den (n : Nat) {x0 x1 x2 x3 : AV} {h h' : H} {r : AEnd} (he : slices_insertionSortCmpFunc_int.f (slices_insertionSortCmpFunc_int.JD n) x0 x1 x2 x3 h = some (r, h')) (hro : retOk Try.f80 r = true) : D n_slices_insertionSortCmpFunc_int [x0, x1, x2, x3] h = some (r, h') :=
  den_at (by kernel_rfl) Try.func80 (c := slices_insertionSortCmpFunc_int.c) (by kernel_rfl) (ne0 (by kernel_rfl)) (by kernel_rfl) n (by rw [show (pol.ann 80).1 = slices_insertionSortCmpFunc_int.A by kernel_rfl, show (pol.ann 80).2 = slices_insertionSortCmpFunc_int.an by kernel_rfl, body_real _ _ (by kernel_rfl)]; exact he) hro
noncomputable abbrev slices_symMergeCmpFunc_int.JD (n : Nat) : Jn (AEnd × H) := slices_symMergeCmpFunc_int.J D n
theorem slices_symMergeCmpFunc_int.fx (n : Nat) : slices_symMergeCmpFunc_int.F D n (slices_symMergeCmpFunc_int.JD n) := realJ_fix
theorem slices_symMergeCmpFunc_int.den (n : Nat) {x0 x1 x2 x3 x4 : AV} {h h' : H} {r : AEnd} (he : slices_symMergeCmpFunc_int.f (slices_symMergeCmpFunc_int.JD n) x0 x1 x2 x3 x4 h = some (r, h')) (hro : retOk Try.f81 r = true) : D n_slices_symMergeCmpFunc_int [x0, x1, x2, x3, x4] h = some (r, h') :=
  den_at (by kernel_rfl) Try.func81 (c := slices_symMergeCmpFunc_int.c) (by kernel_rfl) (ne0 (by kernel_rfl)) (by kernel_rfl) n (by rw [show (pol.ann 81).1 = slices_symMergeCmpFunc_int.A by kernel_rfl, show (pol.ann 81).2 = slices_symMergeCmpFunc_int.an by kernel_rfl, body_real _ _ (by kernel_rfl)]; exact he) hro
noncomputable abbrev alarm_compares_c1.JD (n : Nat) : Jn (AEnd × H) := alarm_compares_c1.J D n
theorem alarm_compares_c1.fx (n : Nat) : alarm_compares_c1.F D n (alarm_compares_c1.JD n) := realJ_fix
theorem alarm_compares_c1.den (n : Nat) {x0 x1 : AV} {h h' : H} {v : AV} (hp : pureL [x0, x1] = true) (he : alarm_compares_c1.f (alarm_compares_c1.JD n) x0 x1 [] = some (.ret v, h')) (hw : v.pure = true) (hro : retOk Try.f82 (.ret v) = true) : D n_alarm_compares_c1 [x0, x1] h = some (.ret v, h) :=
  den_val0 (by kernel_rfl) Try.func82 (c := alarm_compares_c1.c) (by kernel_rfl) (by kernel_rfl) (by kernel_rfl) n hp (by rw [show (pol.ann 82).1 = alarm_compares_c1.A by kernel_rfl, show (pol.ann 82).2 = alarm_compares_c1.an by kernel_rfl, body_real _ _ (by kernel_rfl)]; exact he) hw hro
noncomputable abbrev cmp_Compare_string.JD (n : Nat) : Jn (AEnd × H) := cmp_Compare_string.J D n
theorem cmp_Compare_string.fx (n : Nat) : cmp_Compare_string.F D n (cmp_Compare_string.JD n) := realJ_fix
theorem cmp_Compare_string.den (n : Nat) {x0 x1 : AV} {h h' : H} {v : AV} (hp : pureL [x0, x1] = true) (he : cmp_Compare_string.f (cmp_Compare_string.JD n) x0 x1 [] = some (.ret v, h')) (hw : v.pure = true) (hro : retOk Try.f83 (.ret v) = true) : D n_cmp_Compare_string [x0, x1] h = some (.ret v, h) :=
  den_val0 (by kernel_rfl) Try.func83 (c := cmp_Compare_string.c) (by kernel_rfl) (by kernel_rfl) (by kernel_rfl) n hp (by rw [show (pol.ann 83).1 = cmp_Compare_string.A by kernel_rfl, show (pol.ann 83).2 = cmp_Compare_string.an by kernel_rfl, body_real _ _ (by kernel_rfl)]; exact he) hw hro
noncomputable abbrev alarm_compares_c2.JD (n : Nat) : Jn (AEnd × H) := alarm_compares_c2.J D n
theorem alarm_compares_c2.fx (n : Nat) : alarm_compares_c2.F D n (alarm_compares_c2.JD n) := realJ_fix
theorem alarm_compares_c2.den (n : Nat) {x0 x1 : AV} {h h' : H} {v : AV} (hp : pureL [x0, x1] = true) (he : alarm_compares_c2.f (alarm_compares_c2.JD n) x0 x1 [] = some (.ret v, h')) (hw : v.pure = true) (hro : retOk Try.f84 (.ret v) = true) : D n_alarm_compares_c2 [x0, x1] h = some (.ret v, h) :=
  den_val0 (by kernel_rfl) Try.func84 (c := alarm_compares_c2.c) (by kernel_rfl) (by kernel_rfl) (by kernel_rfl) n hp (by rw [show (pol.ann 84).1 = alarm_compares_c2.A by kernel_rfl, show (pol.ann 84).2 = alarm_compares_c2.an by kernel_rfl, body_real _ _ (by kernel_rfl)]; exact he) hw hro
noncomputable abbrev cmp_Compare_int.JD (n : Nat) : Jn (AEnd × H) := cmp_Compare_int.J D n
theorem cmp_Compare_int.fx (n : Nat) : cmp_Compare_int.F D n (cmp_Compare_int.JD n) := realJ_fix
theorem cmp_Compare_int.den (n : Nat) {x0 x1 : AV} {h h' : H} {v : AV} (hp : pureL [x0, x1] = true) (he : cmp_Compare_int.f (cmp_Compare_int.JD n) x0 x1 [] = some (.ret v, h')) (hw : v.pure = true) (hro : retOk Try.f85 (.ret v) = true) : D n_cmp_Compare_int [x0, x1] h = some (.ret v, h) :=
  den_val0 (by kernel_rfl) Try.func85 (c := cmp_Compare_int.c) (by kernel_rfl) (by kernel_rfl) (by kernel_rfl) n hp (by rw [show (pol.ann 85).1 = cmp_Compare_int.A by kernel_rfl, show (pol.ann 85).2 = cmp_Compare_int.an by kernel_rfl, body_real _ _ (by kernel_rfl)]; exact he) hw hro
noncomputable abbrev alarm_compares_c3.JD (n : Nat) : Jn (AEnd × H) := alarm_compares_c3.J D n
theorem alarm_compares_c3.fx (n : Nat) : alarm_compares_c3.F D n (alarm_compares_c3.JD n) := realJ_fix
theorem alarm_compares_c3.den (n : Nat) {x0 x1 : AV} {h h' : H} {v : AV} (hp : pureL [x0, x1] = true) (he : alarm_compares_c3.f (alarm_compares_c3.JD n) x0 x1 [] = some (.ret v, h')) (hw : v.pure = true) (hro : retOk Try.f86 (.ret v) = true) : D n_alarm_compares_c3 [x0, x1] h = some (.ret v, h) :=
  den_val0 (by kernel_rfl) Try.func86 (c := alarm_compares_c3.c) (by kernel_rfl) (by kernel_rfl) (by kernel_rfl) n hp (by rw [show (pol.ann 86).1 = alarm_compares_c3.A by kernel_rfl, show (pol.ann 86).2 = alarm_compares_c3.an by kernel_rfl, body_real _ _ (by kernel_rfl)]; exact he) hw hro
noncomputable abbrev alarm_compares_c4.JD (n : Nat) : Jn (AEnd × H) := alarm_compares_c4.J D n
theorem alarm_compares_c4.fx (n : Nat) : alarm_compares_c4.F D n (alarm_compares_c4.JD n) := realJ_fix
theorem alarm_compares_c4.den (n : Nat) {x0 x1 : AV} {h h' : H} {v : AV} (hp : pureL [x0, x1] = true) (he : alarm_compares_c4.f (alarm_compares_c4.JD n) x0 x1 [] = some (.ret v, h')) (hw : v.pure = true) (hro : retOk Try.f87 (.ret v) = true) : D n_alarm_compares_c4 [x0, x1] h = some (.ret v, h) :=
  den_val0 (by kernel_rfl) Try.func87 (c := alarm_compares_c4.c) (by kernel_rfl) (by kernel_rfl) (by kernel_rfl) n hp (by rw [show (pol.ann 87).1 = alarm_compares_c4.A by kernel_rfl, show (pol.ann 87).2 = alarm_compares_c4.an by kernel_rfl, body_real _ _ (by kernel_rfl)]; exact he) hw hro
noncomputable abbrev alarm_compares_c5.JD (n : Nat) : Jn (AEnd × H) := alarm_compares_c5.J D n
theorem alarm_compares_c5.fx (n : Nat) : alarm_compares_c5.F D n (alarm_compares_c5.JD n) := realJ_fix
theorem alarm_compares_c5.den (n : Nat) {x0 x1 : AV} {h h' : H} {v : AV} (hp : pureL [x0, x1] = true) (he : alarm_compares_c5.f (alarm_compares_c5.JD n) x0 x1 [] = some (.ret v, h')) (hw : v.pure = true) (hro : retOk Try.f88 (.ret v) = true) : D n_alarm_compares_c5 [x0, x1] h = some (.ret v, h) :=
  den_val0 (by kernel_rfl) Try.func88 (c := alarm_compares_c5.c) (by kernel_rfl) (by kernel_rfl) (by kernel_rfl) n hp (by rw [show (pol.ann 88).1 = alarm_compares_c5.A by kernel_rfl, show (pol.ann 88).2 = alarm_compares_c5.an by kernel_rfl, body_real _ _ (by kernel_rfl)]; exact he) hw hro
noncomputable abbrev alarm_compares_c6.JD (n : Nat) : Jn (AEnd × H) := alarm_compares_c6.J D n
theorem alarm_compares_c6.fx (n : Nat) : alarm_compares_c6.F D n (alarm_compares_c6.JD n) := realJ_fix
theorem alarm_compares_c6.den (n : Nat) {x0 x1 : AV} {h h' : H} {v : AV} (hp : pureL [x0, x1] = true) (he : alarm_compares_c6.f (alarm_compares_c6.JD n) x0 x1 [] = some (.ret v, h')) (hw : v.pure = true) (hro : retOk Try.f89 (.ret v) = true) : D n_alarm_compares_c6 [x0, x1] h = some (.ret v, h) :=
  den_val0 (by kernel_rfl) Try.func89 (c := alarm_compares_c6.c) (by kernel_rfl) (by kernel_rfl) (by kernel_rfl) n hp (by rw [show (pol.ann 89).1 = alarm_compares_c6.A by kernel_rfl, show (pol.ann 89).2 = alarm_compares_c6.an by kernel_rfl, body_real _ _ (by kernel_rfl)]; exact he) hw hro
noncomputable abbrev ref11_more.JD (n : Nat) : Jn (AEnd × H) := ref11_more.J D n
theorem ref11_more.fx (n : Nat) : ref11_more.F D n (ref11_more.JD n) := realJ_fix
theorem ref11_more.den (n : Nat) {x0 : AV} {h h' : H} {v : AV} (hp : pureL [x0] = true) (he : ref11_more.f (ref11_more.JD n) x0 [] = some (.ret v, h')) (hw : v.pure = true) (hro : retOk Try.f90 (.ret v) = true) : D n_warrantorref11_more [x0] h = some (.ret v, h) :=
  den_val0 (by kernel_rfl) Try.func90 (c := ref11_more.c) (by kernel_rfl) (by kernel_rfl) (by kernel_rfl) n hp (by rw [show (pol.ann 90).1 = ref11_more.A by kernel_rfl, show (pol.ann 90).2 = ref11_more.an by kernel_rfl, body_real _ _ (by kernel_rfl)]; exact he) hw hro
noncomputable abbrev ref11_letter.JD (n : Nat) : Jn (AEnd × H) := ref11_letter.J D n
theorem ref11_letter.fx (n : Nat) : ref11_letter.F D n (ref11_letter.JD n) := realJ_fix
theorem ref11_letter.den (n : Nat) {x0 : AV} {h h' : H} {v : AV} (hp : pureL [x0] = true) (he : ref11_letter.f (ref11_letter.JD n) x0 [] = some (.ret v, h')) (hw : v.pure = true) (hro : retOk Try.f91 (.ret v) = true) : D n_warrantorref11_letter [x0] h = some (.ret v, h) :=
  den_val0 (by kernel_rfl) Try.func91 (c := ref11_letter.c) (by kernel_rfl) (by kernel_rfl) (by kernel_rfl) n hp (by rw [show (pol.ann 91).1 = ref11_letter.A by kernel_rfl, show (pol.ann 91).2 = ref11_letter.an by kernel_rfl, body_real _ _ (by kernel_rfl)]; exact he) hw hro
noncomputable abbrev cmp_isNaN_uint64.JD (n : Nat) : Jn (AEnd × H) := cmp_isNaN_uint64.J D n
theorem cmp_isNaN_uint64.fx (n : Nat) : cmp_isNaN_uint64.F D n (cmp_isNaN_uint64.JD n) := realJ_fix
theorem cmp_isNaN_uint64.den (n : Nat) {x0 : AV} {h h' : H} {v : AV} (hp : pureL [x0] = true) (he : cmp_isNaN_uint64.f (cmp_isNaN_uint64.JD n) x0 [] = some (.ret v, h')) (hw : v.pure = true) (hro : retOk Try.f94 (.ret v) = true) : D n_cmp_isNaN_uint64 [x0] h = some (.ret v, h) :=
  den_val0 (by kernel_rfl) Try.func94 (c := cmp_isNaN_uint64.c) (by kernel_rfl) (by kernel_rfl) (by kernel_rfl) n hp (by rw [show (pol.ann 94).1 = cmp_isNaN_uint64.A by kernel_rfl, show (pol.ann 94).2 = cmp_isNaN_uint64.an by kernel_rfl, body_real _ _ (by kernel_rfl)]; exact he) hw hro
noncomputable abbrev result_note_c1.JD (n : Nat) : Jn (AEnd × H) := result_note_c1.J D n
theorem result_note_c1.fx (n : Nat) : result_note_c1.F D n (result_note_c1.JD n) := realJ_fix
theorem result_note_c1.den (n : Nat) {x0 : AV} {h h' : H} {v : AV} (hp : pureL [x0] = true) (he : result_note_c1.f (result_note_c1.JD n) x0 [] = some (.ret v, h')) (hw : v.pure = true) (hro : retOk Try.f95 (.ret v) = true) : D n_result_note_c1 [x0] h = some (.ret v, h) :=
  den_val0 (by kernel_rfl) Try.func95 (c := result_note_c1.c) (by kernel_rfl) (by kernel_rfl) (by kernel_rfl) n hp (by rw [show (pol.ann 95).1 = result_note_c1.A by kernel_rfl, show (pol.ann 95).2 = result_note_c1.an by kernel_rfl, body_real _ _ (by kernel_rfl)]; exact he) hw hro
noncomputable abbrev strings_ContainsFunc.JD (n : Nat) : Jn (AEnd × H) := strings_ContainsFunc.J D n
theorem strings_ContainsFunc.fx (n : Nat) : strings_ContainsFunc.F D n (strings_ContainsFunc.JD n) := realJ_fix
theorem strings_ContainsFunc.den (n : Nat) {x0 x1 : AV} {h h' : H} {r : AEnd} (he : strings_ContainsFunc.f (strings_ContainsFunc.JD n) x0 x1 h = some (r, h')) (hro : retOk Try.f96 r = true) : D n_strings_ContainsFunc [x0, x1] h = some (r, h') :=
  den_at (by kernel_rfl) Try.func96 (c := strings_ContainsFunc.c) (by kernel_rfl) (ne0 (by kernel_rfl)) (by kernel_rfl) n (by rw [show (pol.ann 96).1 = strings_ContainsFunc.A by kernel_rfl, show (pol.ann 96).2 = strings_ContainsFunc.an by kernel_rfl, body_real _ _ (by kernel_rfl)]; exact he) hro
noncomputable abbrev cur_Pen_put.JD (n : Nat) : Jn (AEnd × H) := cur_Pen_put.J D n
theorem cur_Pen_put.fx (n : Nat) : cur_Pen_put.F D n (cur_Pen_put.JD n) := realJ_fix
theorem cur_Pen_put.den (n : Nat) {x0 x1 : AV} {h h' : H} {r : AEnd} (he : cur_Pen_put.f (cur_Pen_put.JD n) x0 x1 h = some (r, h')) (hro : retOk Try.f97 r = true) : D n_cur_Pen_put [x0, x1] h = some (r, h') :=
  den_at (by kernel_rfl) Try.func97 (c := cur_Pen_put.c) (by kernel_rfl) (ne0 (by kernel_rfl)) (by kernel_rfl) n (by rw [show (pol.ann 97).1 = cur_Pen_put.A by kernel_rfl, show (pol.ann 97).2 = cur_Pen_put.an by kernel_rfl, body_real _ _ (by kernel_rfl)]; exact he) hro
noncomputable abbrev norm_Parts.JD (n : Nat) : Jn (AEnd × H) := norm_Parts.J D n
theorem norm_Parts.fx (n : Nat) : norm_Parts.F D n (norm_Parts.JD n) := realJ_fix
theorem norm_Parts.den (n : Nat) {x0 : AV} {h h' : H} {v : AV} (hp : pureL [x0] = true) (he : norm_Parts.f (norm_Parts.JD n) x0 [] = some (.ret v, h')) (hw : v.pure = true) (hro : retOk Try.f98 (.ret v) = true) : D n_norm_Parts [x0] h = some (.ret v, h) :=
  den_val0 (by kernel_rfl) Try.func98 (c := norm_Parts.c) (by kernel_rfl) (by kernel_rfl) (by kernel_rfl) n hp (by rw [show (pol.ann 98).1 = norm_Parts.A by kernel_rfl, show (pol.ann 98).2 = norm_Parts.an by kernel_rfl, body_real _ _ (by kernel_rfl)]; exact he) hw hro
noncomputable abbrev norm_word.JD (n : Nat) : Jn (AEnd × H) := norm_word.J D n
theorem norm_word.fx (n : Nat) : norm_word.F D n (norm_word.JD n) := realJ_fix
theorem norm_word.den (n : Nat) {x0 : AV} {h h' : H} {v : AV} (hp : pureL [x0] = true) (he : norm_word.f (norm_word.JD n) x0 [] = some (.ret v, h')) (hw : v.pure = true) (hro : retOk Try.f99 (.ret v) = true) : D n_norm_word [x0] h = some (.ret v, h) :=
  den_val0 (by kernel_rfl) Try.func99 (c := norm_word.c) (by kernel_rfl) (by kernel_rfl) (by kernel_rfl) n hp (by rw [show (pol.ann 99).1 = norm_word.A by kernel_rfl, show (pol.ann 99).2 = norm_word.an by kernel_rfl, body_real _ _ (by kernel_rfl)]; exact he) hw hro
noncomputable abbrev strings_Builder_WriteByte.JD (n : Nat) : Jn (AEnd × H) := strings_Builder_WriteByte.J D n
theorem strings_Builder_WriteByte.fx (n : Nat) : strings_Builder_WriteByte.F D n (strings_Builder_WriteByte.JD n) := realJ_fix
theorem strings_Builder_WriteByte.den (n : Nat) {x0 x1 : AV} {h h' : H} {r : AEnd} (he : strings_Builder_WriteByte.f (strings_Builder_WriteByte.JD n) x0 x1 h = some (r, h')) (hro : retOk Try.f100 r = true) : D n_strings_Builder_WriteByte [x0, x1] h = some (r, h') :=
  den_at (by kernel_rfl) Try.func100 (c := strings_Builder_WriteByte.c) (by kernel_rfl) (ne0 (by kernel_rfl)) (by kernel_rfl) n (by rw [show (pol.ann 100).1 = strings_Builder_WriteByte.A by kernel_rfl, show (pol.ann 100).2 = strings_Builder_WriteByte.an by kernel_rfl, body_real _ _ (by kernel_rfl)]; exact he) hro
noncomputable abbrev strings_Builder_WriteString.JD (n : Nat) : Jn (AEnd × H) := strings_Builder_WriteString.J D n
theorem strings_Builder_WriteString.fx (n : Nat) : strings_Builder_WriteString.F D n (strings_Builder_WriteString.JD n) := realJ_fix
theorem strings_Builder_WriteString.den (n : Nat) {x0 x1 : AV} {h h' : H} {r : AEnd} (he : strings_Builder_WriteString.f (strings_Builder_WriteString.JD n) x0 x1 h = some (r, h')) (hro : retOk Try.f101 r = true) : D n_strings_Builder_WriteString [x0, x1] h = some (r, h') :=
  den_at (by kernel_rfl) Try.func101 (c := strings_Builder_WriteString.c) (by kernel_rfl) (ne0 (by kernel_rfl)) (by kernel_rfl) n (by rw [show (pol.ann 101).1 = strings_Builder_WriteString.A by kernel_rfl, show (pol.ann 101).2 = strings_Builder_WriteString.an by kernel_rfl, body_real _ _ (by kernel_rfl)]; exact he) hro
noncomputable abbrev slices_rotateCmpFunc_int.JD (n : Nat) : Jn (AEnd × H) := slices_rotateCmpFunc_int.J D n
theorem slices_rotateCmpFunc_int.fx (n : Nat) : slices_rotateCmpFunc_int.F D n (slices_rotateCmpFunc_int.JD n) := realJ_fix
theorem slices_rotateCmpFunc_int.den (n : Nat) {x0 x1 x2 x3 x4 : AV} {h h' : H} {r : AEnd} (he : slices_rotateCmpFunc_int.f (slices_rotateCmpFunc_int.JD n) x0 x1 x2 x3 x4 h = some (r, h')) (hro : retOk Try.f104 r = true) : D n_slices_rotateCmpFunc_int [x0, x1, x2, x3, x4] h = some (r, h') :=
  den_at (by kernel_rfl) Try.func104 (c := slices_rotateCmpFunc_int.c) (by kernel_rfl) (ne0 (by kernel_rfl)) (by kernel_rfl) n (by rw [show (pol.ann 104).1 = slices_rotateCmpFunc_int.A by kernel_rfl, show (pol.ann 104).2 = slices_rotateCmpFunc_int.an by kernel_rfl, body_real _ _ (by kernel_rfl)]; exact he) hro
noncomputable abbrev cmp_isNaN_string.JD (n : Nat) : Jn (AEnd × H) := cmp_isNaN_string.J D n
theorem cmp_isNaN_string.fx (n : Nat) : cmp_isNaN_string.F D n (cmp_isNaN_string.JD n) := realJ_fix
theorem cmp_isNaN_string.den (n : Nat) {x0 : AV} {h h' : H} {v : AV} (hp : pureL [x0] = true) (he : cmp_isNaN_string.f (cmp_isNaN_string.JD n) x0 [] = some (.ret v, h')) (hw : v.pure = true) (hro : retOk Try.f105 (.ret v) = true) : D n_cmp_isNaN_string [x0] h = some (.ret v, h) :=
  den_val0 (by kernel_rfl) Try.func105 (c := cmp_isNaN_string.c) (by kernel_rfl) (by kernel_rfl) (by kernel_rfl) n hp (by rw [show (pol.ann 105).1 = cmp_isNaN_string.A by kernel_rfl, show (pol.ann 105).2 = cmp_isNaN_string.an by kernel_rfl, body_real _ _ (by kernel_rfl)]; exact he) hw hro
noncomputable abbrev cmp_isNaN_int.JD (n : Nat) : Jn (AEnd × H) := cmp_isNaN_int.J D n
theorem cmp_isNaN_int.fx (n : Nat) : cmp_isNaN_int.F D n (cmp_isNaN_int.JD n) := realJ_fix
theorem cmp_isNaN_int.den (n : Nat) {x0 : AV} {h h' : H} {v : AV} (hp : pureL [x0] = true) (he : cmp_isNaN_int.f (cmp_isNaN_int.JD n) x0 [] = some (.ret v, h')) (hw : v.pure = true) (hro : retOk Try.f106 (.ret v) = true) : D n_cmp_isNaN_int [x0] h = some (.ret v, h) :=
  den_val0 (by kernel_rfl) Try.func106 (c := cmp_isNaN_int.c) (by kernel_rfl) (by kernel_rfl) (by kernel_rfl) n hp (by rw [show (pol.ann 106).1 = cmp_isNaN_int.A by kernel_rfl, show (pol.ann 106).2 = cmp_isNaN_int.an by kernel_rfl, body_real _ _ (by kernel_rfl)]; exact he) hw hro
noncomputable abbrev cmp_Less_uint64.JD (n : Nat) : Jn (AEnd × H) := cmp_Less_uint64.J D n
theorem cmp_Less_uint64.fx (n : Nat) : cmp_Less_uint64.F D n (cmp_Less_uint64.JD n) := realJ_fix
theorem cmp_Less_uint64.den (n : Nat) {x0 x1 : AV} {h h' : H} {v : AV} (hp : pureL [x0, x1] = true) (he : cmp_Less_uint64.f (cmp_Less_uint64.JD n) x0 x1 [] = some (.ret v, h')) (hw : v.pure = true) (hro : retOk Try.f113 (.ret v) = true) : D n_cmp_Less_uint64 [x0, x1] h = some (.ret v, h) :=
  den_val0 (by kernel_rfl) Try.func113 (c := cmp_Less_uint64.c) (by kernel_rfl) (by kernel_rfl) (by kernel_rfl) n hp (by rw [show (pol.ann 113).1 = cmp_Less_uint64.A by kernel_rfl, show (pol.ann 113).2 = cmp_Less_uint64.an by kernel_rfl, body_real _ _ (by kernel_rfl)]; exact he) hw hro
noncomputable abbrev strings_IndexFunc.JD (n : Nat) : Jn (AEnd × H) := strings_IndexFunc.J D n
theorem strings_IndexFunc.fx (n : Nat) : strings_IndexFunc.F D n (strings_IndexFunc.JD n) := realJ_fix
theorem strings_IndexFunc.den (n : Nat) {x0 x1 : AV} {h h' : H} {r : AEnd} (he : strings_IndexFunc.f (strings_IndexFunc.JD n) x0 x1 h = some (r, h')) (hro : retOk Try.f118 r = true) : D n_strings_IndexFunc [x0, x1] h = some (r, h') :=
  den_at (by kernel_rfl) Try.func118 (c := strings_IndexFunc.c) (by kernel_rfl) (ne0 (by kernel_rfl)) (by kernel_rfl) n (by rw [show (pol.ann 118).1 = strings_IndexFunc.A by kernel_rfl, show (pol.ann 118).2 = strings_IndexFunc.an by kernel_rfl, body_real _ _ (by kernel_rfl)]; exact he) hro
noncomputable abbrev slices_swapRangeCmpFunc_int.JD (n : Nat) : Jn (AEnd × H) := slices_swapRangeCmpFunc_int.J D n
theorem slices_swapRangeCmpFunc_int.fx (n : Nat) : slices_swapRangeCmpFunc_int.F D n (slices_swapRangeCmpFunc_int.JD n) := realJ_fix
theorem slices_swapRangeCmpFunc_int.den (n : Nat) {x0 x1 x2 x3 x4 : AV} {h h' : H} {r : AEnd} (he : slices_swapRangeCmpFunc_int.f (slices_swapRangeCmpFunc_int.JD n) x0 x1 x2 x3 x4 h = some (r, h')) (hro : retOk Try.f120 r = true) : D n_slices_swapRangeCmpFunc_int [x0, x1, x2, x3, x4] h = some (r, h') :=
  den_at (by kernel_rfl) Try.func120 (c := slices_swapRangeCmpFunc_int.c) (by kernel_rfl) (ne0 (by kernel_rfl)) (by kernel_rfl) n (by rw [show (pol.ann 120).1 = slices_swapRangeCmpFunc_int.A by kernel_rfl, show (pol.ann 120).2 = slices_swapRangeCmpFunc_int.an by kernel_rfl, body_real _ _ (by kernel_rfl)]; exact he) hro
noncomputable abbrev strings_indexFunc.JD (n : Nat) : Jn (AEnd × H) := strings_indexFunc.J D n
theorem strings_indexFunc.fx (n : Nat) : strings_indexFunc.F D n (strings_indexFunc.JD n) := realJ_fix
theorem strings_indexFunc.den (n : Nat) {x0 x1 x2 : AV} {h h' : H} {r : AEnd} (he : strings_indexFunc.f (strings_indexFunc.JD n) x0 x1 x2 h = some (r, h')) (hro : retOk Try.f126 r = true) : D n_strings_indexFunc [x0, x1, x2] h = some (r, h') :=
  den_at (by kernel_rfl) Try.func126 (c := strings_indexFunc.c) (by kernel_rfl) (ne0 (by kernel_rfl)) (by kernel_rfl) n (by rw [show (pol.ann 126).1 = strings_indexFunc.A by kernel_rfl, show (pol.ann 126).2 = strings_indexFunc.an by kernel_rfl, body_real _ _ (by kernel_rfl)]; exact he) hro
end Go.Proofs.Ytdggnlgklicbdaa
