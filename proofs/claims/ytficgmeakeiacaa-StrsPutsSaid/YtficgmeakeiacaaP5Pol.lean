import Derived.Test.YtficgmeakeiacaaP5G1
import Derived.Test.YtficgmeakeiacaaVa5
set_option linter.all false
open Go Go.Ve Go.Proofs
namespace Go.Proofs.Ytficgmeakeiacaa
set_option maxRecDepth 100000
noncomputable def tab : List (Nat × FAnn × Ann) := [(3, law05_StrsPuts.A, law05_StrsPuts.an), (4, law05_StrsOf.A, law05_StrsOf.an), (5, law05_StrsJoins.A, law05_StrsJoins.an), (6, ref05_Large.A, ref05_Large.an), (7, law05_lives.A, law05_lives.an), (8, strs_Put.A, strs_Put.an), (9, ref05_Check.A, ref05_Check.an), (10, strs_Check.A, strs_Check.an), (11, strs_Get.A, strs_Get.an), (12, ref05_Put.A, ref05_Put.an), (13, ref05_Same.A, ref05_Same.an), (15, strs_Find.A, strs_Find.an), (16, ref05_Find.A, ref05_Find.an), (17, ref05_Of.A, ref05_Of.an), (18, strs_Same.A, strs_Same.an), (19, cur_New.A, cur_New.an), (20, cur_Pen_U.A, cur_Pen_U.an), (21, strs_shares.A, strs_shares.an), (22, cur_Pen_Text.A, cur_Pen_Text.an), (23, cur_Pen_Bytes.A, cur_Pen_Bytes.an), (24, strs_Check_c1.A, strs_Check_c1.an), (25, slices_ContainsFunc_string_string.A, slices_ContainsFunc_string_string.an), (26, cur_From.A, cur_From.an), (27, strs_taker_count.A, strs_taker_count.an), (28, cur_Reader_Count.A, cur_Reader_Count.an), (29, strs_taker_text.A, strs_taker_text.an), (30, cur_Reader_End.A, cur_Reader_End.an), (31, cur_Reader_Err.A, cur_Reader_Err.an), (32, cur_Reader_At.A, cur_Reader_At.an), (33, ref02_Num.A, ref02_Num.an), (34, ref05_shares.A, ref05_shares.an), (35, ref02_Text.A, ref02_Text.an), (39, slices_BinarySearch_string_string.A, slices_BinarySearch_string_string.an), (40, slices_Equal_string_string.A, slices_Equal_string_string.an), (41, cur_Pen_put.A, cur_Pen_put.an), (42, leb_Put.A, leb_Put.an), (44, slices_IndexFunc_string_string.A, slices_IndexFunc_string_string.an), (45, cur_ask_int.A, cur_ask_int.an), (46, cur_Reader_Count_c1.A, cur_Reader_Count_c1.an), (47, cur_Reader_upto.A, cur_Reader_upto.an), (48, cur_Reader_Text.A, cur_Reader_Text.an), (49, strings_Clone.A, strings_Clone.an), (50, cur_Reader_Left.A, cur_Reader_Left.an), (51, cur_Reader_Fail.A, cur_Reader_Fail.an), (52, ref01_Put.A, ref01_Put.an), (55, cmp_Less_string.A, cmp_Less_string.an), (56, slices_isNaN_string.A, slices_isNaN_string.an), (58, cur_Reader_number.A, cur_Reader_number.an), (59, cur_ask_string.A, cur_ask_string.an), (60, cur_Reader_Text_c1.A, cur_Reader_Text_c1.an), (61, cur_Reader_take.A, cur_Reader_take.an), (73, cmp_isNaN_string.A, cmp_isNaN_string.an), (74, leb_Get.A, leb_Get.an)]
def here : List Nat := [19, 20, 22, 23, 26, 27, 28, 29, 30, 31, 32, 41, 45, 46, 47, 48, 50, 51, 58, 59, 60, 61]
noncomputable def exts : List (Nat × (List AV → H → Option (AEnd × H))) := [(14, ofE), (43, cloneE 1 1), (62, cloneStr)]
noncomputable def pol : Pol := tabPol tab here exts
noncomputable abbrev D : Cl := den Try.prog pol
noncomputable abbrev law05_StrsPuts.JD (n : Nat) : Jn (AEnd × H) := law05_StrsPuts.J D n
theorem law05_StrsPuts.fx (n : Nat) : law05_StrsPuts.F D n (law05_StrsPuts.JD n) := realJ_fix
theorem law05_StrsPuts.den (n : Nat) {x0 : AV} {h h' : H} {v : AV} (hp : pureL [x0] = true) (he : law05_StrsPuts.f (law05_StrsPuts.JD n) x0 [] = some (.ret v, h')) (hw : v.pure = true) (hro : retOk Try.f3 (.ret v) = true) : D n_warrantorlaw05_StrsPuts [x0] h = some (.ret v, h) :=
  den_val0 (by kernel_rfl) Try.func3 (c := law05_StrsPuts.c) (by kernel_rfl) (by kernel_rfl) (by kernel_rfl) n hp (by rw [show (pol.ann 3).1 = law05_StrsPuts.A by kernel_rfl, show (pol.ann 3).2 = law05_StrsPuts.an by kernel_rfl, body_real _ _ (by kernel_rfl)]; exact he) hw hro
noncomputable abbrev law05_StrsOf.JD (n : Nat) : Jn (AEnd × H) := law05_StrsOf.J D n
theorem law05_StrsOf.fx (n : Nat) : law05_StrsOf.F D n (law05_StrsOf.JD n) := realJ_fix
theorem law05_StrsOf.den (n : Nat) {x0 x1 x2 : AV} {h h' : H} {v : AV} (hp : pureL [x0, x1, x2] = true) (he : law05_StrsOf.f (law05_StrsOf.JD n) x0 x1 x2 [] = some (.ret v, h')) (hw : v.pure = true) (hro : retOk Try.f4 (.ret v) = true) : D n_warrantorlaw05_StrsOf [x0, x1, x2] h = some (.ret v, h) :=
  den_val0 (by kernel_rfl) Try.func4 (c := law05_StrsOf.c) (by kernel_rfl) (by kernel_rfl) (by kernel_rfl) n hp (by rw [show (pol.ann 4).1 = law05_StrsOf.A by kernel_rfl, show (pol.ann 4).2 = law05_StrsOf.an by kernel_rfl, body_real _ _ (by kernel_rfl)]; exact he) hw hro
noncomputable abbrev law05_StrsJoins.JD (n : Nat) : Jn (AEnd × H) := law05_StrsJoins.J D n
theorem law05_StrsJoins.fx (n : Nat) : law05_StrsJoins.F D n (law05_StrsJoins.JD n) := realJ_fix
theorem law05_StrsJoins.den (n : Nat) {x0 x1 : AV} {h h' : H} {v : AV} (hp : pureL [x0, x1] = true) (he : law05_StrsJoins.f (law05_StrsJoins.JD n) x0 x1 [] = some (.ret v, h')) (hw : v.pure = true) (hro : retOk Try.f5 (.ret v) = true) : D n_warrantorlaw05_StrsJoins [x0, x1] h = some (.ret v, h) :=
  den_val0 (by kernel_rfl) Try.func5 (c := law05_StrsJoins.c) (by kernel_rfl) (by kernel_rfl) (by kernel_rfl) n hp (by rw [show (pol.ann 5).1 = law05_StrsJoins.A by kernel_rfl, show (pol.ann 5).2 = law05_StrsJoins.an by kernel_rfl, body_real _ _ (by kernel_rfl)]; exact he) hw hro
noncomputable abbrev ref05_Large.JD (n : Nat) : Jn (AEnd × H) := ref05_Large.J D n
theorem ref05_Large.fx (n : Nat) : ref05_Large.F D n (ref05_Large.JD n) := realJ_fix
theorem ref05_Large.den (n : Nat) {x0 : AV} {h h' : H} {v : AV} (hp : pureL [x0] = true) (he : ref05_Large.f (ref05_Large.JD n) x0 [] = some (.ret v, h')) (hw : v.pure = true) (hro : retOk Try.f6 (.ret v) = true) : D n_warrantorref05_Large [x0] h = some (.ret v, h) :=
  den_val0 (by kernel_rfl) Try.func6 (c := ref05_Large.c) (by kernel_rfl) (by kernel_rfl) (by kernel_rfl) n hp (by rw [show (pol.ann 6).1 = ref05_Large.A by kernel_rfl, show (pol.ann 6).2 = ref05_Large.an by kernel_rfl, body_real _ _ (by kernel_rfl)]; exact he) hw hro
noncomputable abbrev law05_lives.JD (n : Nat) : Jn (AEnd × H) := law05_lives.J D n
theorem law05_lives.fx (n : Nat) : law05_lives.F D n (law05_lives.JD n) := realJ_fix
theorem law05_lives.den (n : Nat) {h h' : H} {v : AV} (hp : pureL [] = true) (he : law05_lives.f (law05_lives.JD n)  [] = some (.ret v, h')) (hw : v.pure = true) (hro : retOk Try.f7 (.ret v) = true) : D n_warrantorlaw05_lives [] h = some (.ret v, h) :=
  den_val0 (by kernel_rfl) Try.func7 (c := law05_lives.c) (by kernel_rfl) (by kernel_rfl) (by kernel_rfl) n hp (by rw [show (pol.ann 7).1 = law05_lives.A by kernel_rfl, show (pol.ann 7).2 = law05_lives.an by kernel_rfl, body_real _ _ (by kernel_rfl)]; exact he) hw hro
noncomputable abbrev strs_Put.JD (n : Nat) : Jn (AEnd × H) := strs_Put.J D n
theorem strs_Put.fx (n : Nat) : strs_Put.F D n (strs_Put.JD n) := realJ_fix
theorem strs_Put.den (n : Nat) {x0 : AV} {h h' : H} {v : AV} (hp : pureL [x0] = true) (he : strs_Put.f (strs_Put.JD n) x0 [] = some (.ret v, h')) (hw : v.pure = true) (hro : retOk Try.f8 (.ret v) = true) : D n_strs_Put [x0] h = some (.ret v, h) :=
  den_val0 (by kernel_rfl) Try.func8 (c := strs_Put.c) (by kernel_rfl) (by kernel_rfl) (by kernel_rfl) n hp (by rw [show (pol.ann 8).1 = strs_Put.A by kernel_rfl, show (pol.ann 8).2 = strs_Put.an by kernel_rfl, body_real _ _ (by kernel_rfl)]; exact he) hw hro
noncomputable abbrev ref05_Check.JD (n : Nat) : Jn (AEnd × H) := ref05_Check.J D n
theorem ref05_Check.fx (n : Nat) : ref05_Check.F D n (ref05_Check.JD n) := realJ_fix
theorem ref05_Check.den (n : Nat) {x0 : AV} {h h' : H} {v : AV} (hp : pureL [x0] = true) (he : ref05_Check.f (ref05_Check.JD n) x0 [] = some (.ret v, h')) (hw : v.pure = true) (hro : retOk Try.f9 (.ret v) = true) : D n_warrantorref05_Check [x0] h = some (.ret v, h) :=
  den_val0 (by kernel_rfl) Try.func9 (c := ref05_Check.c) (by kernel_rfl) (by kernel_rfl) (by kernel_rfl) n hp (by rw [show (pol.ann 9).1 = ref05_Check.A by kernel_rfl, show (pol.ann 9).2 = ref05_Check.an by kernel_rfl, body_real _ _ (by kernel_rfl)]; exact he) hw hro
noncomputable abbrev strs_Check.JD (n : Nat) : Jn (AEnd × H) := strs_Check.J D n
theorem strs_Check.fx (n : Nat) : strs_Check.F D n (strs_Check.JD n) := realJ_fix
theorem strs_Check.den (n : Nat) {x0 : AV} {h h' : H} {v : AV} (hp : pureL [x0] = true) (he : strs_Check.f (strs_Check.JD n) x0 [] = some (.ret v, h')) (hw : v.pure = true) (hro : retOk Try.f10 (.ret v) = true) : D n_strs_Check [x0] h = some (.ret v, h) :=
  den_val0 (by kernel_rfl) Try.func10 (c := strs_Check.c) (by kernel_rfl) (by kernel_rfl) (by kernel_rfl) n hp (by rw [show (pol.ann 10).1 = strs_Check.A by kernel_rfl, show (pol.ann 10).2 = strs_Check.an by kernel_rfl, body_real _ _ (by kernel_rfl)]; exact he) hw hro
noncomputable abbrev strs_Get.JD (n : Nat) : Jn (AEnd × H) := strs_Get.J D n
theorem strs_Get.fx (n : Nat) : strs_Get.F D n (strs_Get.JD n) := realJ_fix
theorem strs_Get.den (n : Nat) {x0 : AV} {h h' : H} {v : AV} (hp : pureL [x0] = true) (he : strs_Get.f (strs_Get.JD n) x0 [] = some (.ret v, h')) (hw : v.pure = true) (hro : retOk Try.f11 (.ret v) = true) : D n_strs_Get [x0] h = some (.ret v, h) :=
  den_val0 (by kernel_rfl) Try.func11 (c := strs_Get.c) (by kernel_rfl) (by kernel_rfl) (by kernel_rfl) n hp (by rw [show (pol.ann 11).1 = strs_Get.A by kernel_rfl, show (pol.ann 11).2 = strs_Get.an by kernel_rfl, body_real _ _ (by kernel_rfl)]; exact he) hw hro
noncomputable abbrev ref05_Put.JD (n : Nat) : Jn (AEnd × H) := ref05_Put.J D n
theorem ref05_Put.fx (n : Nat) : ref05_Put.F D n (ref05_Put.JD n) := realJ_fix
theorem ref05_Put.den (n : Nat) {x0 : AV} {h h' : H} {v : AV} (hp : pureL [x0] = true) (he : ref05_Put.f (ref05_Put.JD n) x0 [] = some (.ret v, h')) (hw : v.pure = true) (hro : retOk Try.f12 (.ret v) = true) : D n_warrantorref05_Put [x0] h = some (.ret v, h) :=
  den_val0 (by kernel_rfl) Try.func12 (c := ref05_Put.c) (by kernel_rfl) (by kernel_rfl) (by kernel_rfl) n hp (by rw [show (pol.ann 12).1 = ref05_Put.A by kernel_rfl, show (pol.ann 12).2 = ref05_Put.an by kernel_rfl, body_real _ _ (by kernel_rfl)]; exact he) hw hro
noncomputable abbrev ref05_Same.JD (n : Nat) : Jn (AEnd × H) := ref05_Same.J D n
theorem ref05_Same.fx (n : Nat) : ref05_Same.F D n (ref05_Same.JD n) := realJ_fix
theorem ref05_Same.den (n : Nat) {x0 x1 : AV} {h h' : H} {v : AV} (hp : pureL [x0, x1] = true) (he : ref05_Same.f (ref05_Same.JD n) x0 x1 [] = some (.ret v, h')) (hw : v.pure = true) (hro : retOk Try.f13 (.ret v) = true) : D n_warrantorref05_Same [x0, x1] h = some (.ret v, h) :=
  den_val0 (by kernel_rfl) Try.func13 (c := ref05_Same.c) (by kernel_rfl) (by kernel_rfl) (by kernel_rfl) n hp (by rw [show (pol.ann 13).1 = ref05_Same.A by kernel_rfl, show (pol.ann 13).2 = ref05_Same.an by kernel_rfl, body_real _ _ (by kernel_rfl)]; exact he) hw hro
noncomputable abbrev strs_Find.JD (n : Nat) : Jn (AEnd × H) := strs_Find.J D n
theorem strs_Find.fx (n : Nat) : strs_Find.F D n (strs_Find.JD n) := realJ_fix
theorem strs_Find.den (n : Nat) {x0 x1 : AV} {h h' : H} {v : AV} (hp : pureL [x0, x1] = true) (he : strs_Find.f (strs_Find.JD n) x0 x1 [] = some (.ret v, h')) (hw : v.pure = true) (hro : retOk Try.f15 (.ret v) = true) : D n_strs_Find [x0, x1] h = some (.ret v, h) :=
  den_val0 (by kernel_rfl) Try.func15 (c := strs_Find.c) (by kernel_rfl) (by kernel_rfl) (by kernel_rfl) n hp (by rw [show (pol.ann 15).1 = strs_Find.A by kernel_rfl, show (pol.ann 15).2 = strs_Find.an by kernel_rfl, body_real _ _ (by kernel_rfl)]; exact he) hw hro
noncomputable abbrev ref05_Find.JD (n : Nat) : Jn (AEnd × H) := ref05_Find.J D n
theorem ref05_Find.fx (n : Nat) : ref05_Find.F D n (ref05_Find.JD n) := realJ_fix
theorem ref05_Find.den (n : Nat) {x0 x1 : AV} {h h' : H} {v : AV} (hp : pureL [x0, x1] = true) (he : ref05_Find.f (ref05_Find.JD n) x0 x1 [] = some (.ret v, h')) (hw : v.pure = true) (hro : retOk Try.f16 (.ret v) = true) : D n_warrantorref05_Find [x0, x1] h = some (.ret v, h) :=
  den_val0 (by kernel_rfl) Try.func16 (c := ref05_Find.c) (by kernel_rfl) (by kernel_rfl) (by kernel_rfl) n hp (by rw [show (pol.ann 16).1 = ref05_Find.A by kernel_rfl, show (pol.ann 16).2 = ref05_Find.an by kernel_rfl, body_real _ _ (by kernel_rfl)]; exact he) hw hro
noncomputable abbrev ref05_Of.JD (n : Nat) : Jn (AEnd × H) := ref05_Of.J D n
theorem ref05_Of.fx (n : Nat) : ref05_Of.F D n (ref05_Of.JD n) := realJ_fix
theorem ref05_Of.den (n : Nat) {x0 : AV} {h h' : H} {v : AV} (hp : pureL [x0] = true) (he : ref05_Of.f (ref05_Of.JD n) x0 [] = some (.ret v, h')) (hw : v.pure = true) (hro : retOk Try.f17 (.ret v) = true) : D n_warrantorref05_Of [x0] h = some (.ret v, h) :=
  den_val0 (by kernel_rfl) Try.func17 (c := ref05_Of.c) (by kernel_rfl) (by kernel_rfl) (by kernel_rfl) n hp (by rw [show (pol.ann 17).1 = ref05_Of.A by kernel_rfl, show (pol.ann 17).2 = ref05_Of.an by kernel_rfl, body_real _ _ (by kernel_rfl)]; exact he) hw hro
noncomputable abbrev strs_Same.JD (n : Nat) : Jn (AEnd × H) := strs_Same.J D n
theorem strs_Same.fx (n : Nat) : strs_Same.F D n (strs_Same.JD n) := realJ_fix
theorem strs_Same.den (n : Nat) {x0 x1 : AV} {h h' : H} {v : AV} (hp : pureL [x0, x1] = true) (he : strs_Same.f (strs_Same.JD n) x0 x1 [] = some (.ret v, h')) (hw : v.pure = true) (hro : retOk Try.f18 (.ret v) = true) : D n_strs_Same [x0, x1] h = some (.ret v, h) :=
  den_val0 (by kernel_rfl) Try.func18 (c := strs_Same.c) (by kernel_rfl) (by kernel_rfl) (by kernel_rfl) n hp (by rw [show (pol.ann 18).1 = strs_Same.A by kernel_rfl, show (pol.ann 18).2 = strs_Same.an by kernel_rfl, body_real _ _ (by kernel_rfl)]; exact he) hw hro
noncomputable abbrev cur_New.JD (n : Nat) : Jn (AEnd × H) := cur_New.J D n
theorem cur_New.fx (n : Nat) : cur_New.F D n (cur_New.JD n) := realJ_fix
theorem cur_New.den (n : Nat) {h h' : H} {r : AEnd} (he : cur_New.f (cur_New.JD n)  h = some (r, h')) (hro : retOk Try.f19 r = true) : D n_cur_New [] h = some (r, h') :=
  den_at (by kernel_rfl) Try.func19 (c := cur_New.c) (by kernel_rfl) (ne0 (by kernel_rfl)) (by kernel_rfl) n (by rw [show (pol.ann 19).1 = cur_New.A by kernel_rfl, show (pol.ann 19).2 = cur_New.an by kernel_rfl, body_real _ _ (by kernel_rfl)]; exact he) hro
noncomputable abbrev cur_Pen_U.JD (n : Nat) : Jn (AEnd × H) := cur_Pen_U.J D n
theorem cur_Pen_U.fx (n : Nat) : cur_Pen_U.F D n (cur_Pen_U.JD n) := realJ_fix
theorem cur_Pen_U.den (n : Nat) {x0 x1 : AV} {h h' : H} {r : AEnd} (he : cur_Pen_U.f (cur_Pen_U.JD n) x0 x1 h = some (r, h')) (hro : retOk Try.f20 r = true) : D n_cur_Pen_U [x0, x1] h = some (r, h') :=
  den_at (by kernel_rfl) Try.func20 (c := cur_Pen_U.c) (by kernel_rfl) (ne0 (by kernel_rfl)) (by kernel_rfl) n (by rw [show (pol.ann 20).1 = cur_Pen_U.A by kernel_rfl, show (pol.ann 20).2 = cur_Pen_U.an by kernel_rfl, body_real _ _ (by kernel_rfl)]; exact he) hro
noncomputable abbrev strs_shares.JD (n : Nat) : Jn (AEnd × H) := strs_shares.J D n
theorem strs_shares.fx (n : Nat) : strs_shares.F D n (strs_shares.JD n) := realJ_fix
theorem strs_shares.den (n : Nat) {x0 x1 : AV} {h h' : H} {v : AV} (hp : pureL [x0, x1] = true) (he : strs_shares.f (strs_shares.JD n) x0 x1 [] = some (.ret v, h')) (hw : v.pure = true) (hro : retOk Try.f21 (.ret v) = true) : D n_strs_shares [x0, x1] h = some (.ret v, h) :=
  den_val0 (by kernel_rfl) Try.func21 (c := strs_shares.c) (by kernel_rfl) (by kernel_rfl) (by kernel_rfl) n hp (by rw [show (pol.ann 21).1 = strs_shares.A by kernel_rfl, show (pol.ann 21).2 = strs_shares.an by kernel_rfl, body_real _ _ (by kernel_rfl)]; exact he) hw hro
noncomputable abbrev cur_Pen_Text.JD (n : Nat) : Jn (AEnd × H) := cur_Pen_Text.J D n
theorem cur_Pen_Text.fx (n : Nat) : cur_Pen_Text.F D n (cur_Pen_Text.JD n) := realJ_fix
theorem cur_Pen_Text.den (n : Nat) {x0 x1 : AV} {h h' : H} {r : AEnd} (he : cur_Pen_Text.f (cur_Pen_Text.JD n) x0 x1 h = some (r, h')) (hro : retOk Try.f22 r = true) : D n_cur_Pen_Text [x0, x1] h = some (r, h') :=
  den_at (by kernel_rfl) Try.func22 (c := cur_Pen_Text.c) (by kernel_rfl) (ne0 (by kernel_rfl)) (by kernel_rfl) n (by rw [show (pol.ann 22).1 = cur_Pen_Text.A by kernel_rfl, show (pol.ann 22).2 = cur_Pen_Text.an by kernel_rfl, body_real _ _ (by kernel_rfl)]; exact he) hro
noncomputable abbrev cur_Pen_Bytes.JD (n : Nat) : Jn (AEnd × H) := cur_Pen_Bytes.J D n
theorem cur_Pen_Bytes.fx (n : Nat) : cur_Pen_Bytes.F D n (cur_Pen_Bytes.JD n) := realJ_fix
theorem cur_Pen_Bytes.den (n : Nat) {x0 : AV} {h h' : H} {r : AEnd} (he : cur_Pen_Bytes.f (cur_Pen_Bytes.JD n) x0 h = some (r, h')) (hro : retOk Try.f23 r = true) : D n_cur_Pen_Bytes [x0] h = some (r, h') :=
  den_at (by kernel_rfl) Try.func23 (c := cur_Pen_Bytes.c) (by kernel_rfl) (ne0 (by kernel_rfl)) (by kernel_rfl) n (by rw [show (pol.ann 23).1 = cur_Pen_Bytes.A by kernel_rfl, show (pol.ann 23).2 = cur_Pen_Bytes.an by kernel_rfl, body_real _ _ (by kernel_rfl)]; exact he) hro
noncomputable abbrev strs_Check_c1.JD (n : Nat) : Jn (AEnd × H) := strs_Check_c1.J D n
theorem strs_Check_c1.fx (n : Nat) : strs_Check_c1.F D n (strs_Check_c1.JD n) := realJ_fix
theorem strs_Check_c1.den (n : Nat) {x0 : AV} {h h' : H} {v : AV} (hp : pureL [x0] = true) (he : strs_Check_c1.f (strs_Check_c1.JD n) x0 [] = some (.ret v, h')) (hw : v.pure = true) (hro : retOk Try.f24 (.ret v) = true) : D n_strs_Check_c1 [x0] h = some (.ret v, h) :=
  den_val0 (by kernel_rfl) Try.func24 (c := strs_Check_c1.c) (by kernel_rfl) (by kernel_rfl) (by kernel_rfl) n hp (by rw [show (pol.ann 24).1 = strs_Check_c1.A by kernel_rfl, show (pol.ann 24).2 = strs_Check_c1.an by kernel_rfl, body_real _ _ (by kernel_rfl)]; exact he) hw hro
noncomputable abbrev slices_ContainsFunc_string_string.JD (n : Nat) : Jn (AEnd × H) := slices_ContainsFunc_string_string.J D n
theorem slices_ContainsFunc_string_string.fx (n : Nat) : slices_ContainsFunc_string_string.F D n (slices_ContainsFunc_string_string.JD n) := realJ_fix
theorem slices_ContainsFunc_string_string.den (n : Nat) {x0 x1 : AV} {h h' : H} {v : AV} (hp : pureL [x0, x1] = true) (he : slices_ContainsFunc_string_string.f (slices_ContainsFunc_string_string.JD n) x0 x1 [] = some (.ret v, h')) (hw : v.pure = true) (hro : retOk Try.f25 (.ret v) = true) : D n_slices_ContainsFunc_string_string [x0, x1] h = some (.ret v, h) :=
  den_val0 (by kernel_rfl) Try.func25 (c := slices_ContainsFunc_string_string.c) (by kernel_rfl) (by kernel_rfl) (by kernel_rfl) n hp (by rw [show (pol.ann 25).1 = slices_ContainsFunc_string_string.A by kernel_rfl, show (pol.ann 25).2 = slices_ContainsFunc_string_string.an by kernel_rfl, body_real _ _ (by kernel_rfl)]; exact he) hw hro
noncomputable abbrev cur_From.JD (n : Nat) : Jn (AEnd × H) := cur_From.J D n
theorem cur_From.fx (n : Nat) : cur_From.F D n (cur_From.JD n) := realJ_fix
theorem cur_From.den (n : Nat) {x0 : AV} {h h' : H} {r : AEnd} (he : cur_From.f (cur_From.JD n) x0 h = some (r, h')) (hro : retOk Try.f26 r = true) : D n_cur_From [x0] h = some (r, h') :=
  den_at (by kernel_rfl) Try.func26 (c := cur_From.c) (by kernel_rfl) (ne0 (by kernel_rfl)) (by kernel_rfl) n (by rw [show (pol.ann 26).1 = cur_From.A by kernel_rfl, show (pol.ann 26).2 = cur_From.an by kernel_rfl, body_real _ _ (by kernel_rfl)]; exact he) hro
noncomputable abbrev strs_taker_count.JD (n : Nat) : Jn (AEnd × H) := strs_taker_count.J D n
theorem strs_taker_count.fx (n : Nat) : strs_taker_count.F D n (strs_taker_count.JD n) := realJ_fix
theorem strs_taker_count.den (n : Nat) {x0 x1 x2 : AV} {h h' : H} {r : AEnd} (he : strs_taker_count.f (strs_taker_count.JD n) x0 x1 x2 h = some (r, h')) (hro : retOk Try.f27 r = true) : D n_strs_taker_count [x0, x1, x2] h = some (r, h') :=
  den_at (by kernel_rfl) Try.func27 (c := strs_taker_count.c) (by kernel_rfl) (ne0 (by kernel_rfl)) (by kernel_rfl) n (by rw [show (pol.ann 27).1 = strs_taker_count.A by kernel_rfl, show (pol.ann 27).2 = strs_taker_count.an by kernel_rfl, body_real _ _ (by kernel_rfl)]; exact he) hro
noncomputable abbrev cur_Reader_Count.JD (n : Nat) : Jn (AEnd × H) := cur_Reader_Count.J D n
theorem cur_Reader_Count.fx (n : Nat) : cur_Reader_Count.F D n (cur_Reader_Count.JD n) := realJ_fix
theorem cur_Reader_Count.den (n : Nat) {x0 x1 : AV} {h h' : H} {r : AEnd} (he : cur_Reader_Count.f (cur_Reader_Count.JD n) x0 x1 h = some (r, h')) (hro : retOk Try.f28 r = true) : D n_cur_Reader_Count [x0, x1] h = some (r, h') :=
  den_at (by kernel_rfl) Try.func28 (c := cur_Reader_Count.c) (by kernel_rfl) (ne0 (by kernel_rfl)) (by kernel_rfl) n (by rw [show (pol.ann 28).1 = cur_Reader_Count.A by kernel_rfl, show (pol.ann 28).2 = cur_Reader_Count.an by kernel_rfl, body_real _ _ (by kernel_rfl)]; exact he) hro
noncomputable abbrev strs_taker_text.JD (n : Nat) : Jn (AEnd × H) := strs_taker_text.J D n
theorem strs_taker_text.fx (n : Nat) : strs_taker_text.F D n (strs_taker_text.JD n) := realJ_fix
theorem strs_taker_text.den (n : Nat) {x0 : AV} {h h' : H} {r : AEnd} (he : strs_taker_text.f (strs_taker_text.JD n) x0 h = some (r, h')) (hro : retOk Try.f29 r = true) : D n_strs_taker_text [x0] h = some (r, h') :=
  den_at (by kernel_rfl) Try.func29 (c := strs_taker_text.c) (by kernel_rfl) (ne0 (by kernel_rfl)) (by kernel_rfl) n (by rw [show (pol.ann 29).1 = strs_taker_text.A by kernel_rfl, show (pol.ann 29).2 = strs_taker_text.an by kernel_rfl, body_real _ _ (by kernel_rfl)]; exact he) hro
noncomputable abbrev cur_Reader_End.JD (n : Nat) : Jn (AEnd × H) := cur_Reader_End.J D n
theorem cur_Reader_End.fx (n : Nat) : cur_Reader_End.F D n (cur_Reader_End.JD n) := realJ_fix
theorem cur_Reader_End.den (n : Nat) {x0 : AV} {h h' : H} {r : AEnd} (he : cur_Reader_End.f (cur_Reader_End.JD n) x0 h = some (r, h')) (hro : retOk Try.f30 r = true) : D n_cur_Reader_End [x0] h = some (r, h') :=
  den_at (by kernel_rfl) Try.func30 (c := cur_Reader_End.c) (by kernel_rfl) (ne0 (by kernel_rfl)) (by kernel_rfl) n (by rw [show (pol.ann 30).1 = cur_Reader_End.A by kernel_rfl, show (pol.ann 30).2 = cur_Reader_End.an by kernel_rfl, body_real _ _ (by kernel_rfl)]; exact he) hro
noncomputable abbrev cur_Reader_Err.JD (n : Nat) : Jn (AEnd × H) := cur_Reader_Err.J D n
theorem cur_Reader_Err.fx (n : Nat) : cur_Reader_Err.F D n (cur_Reader_Err.JD n) := realJ_fix
theorem cur_Reader_Err.den (n : Nat) {x0 : AV} {h h' : H} {r : AEnd} (he : cur_Reader_Err.f (cur_Reader_Err.JD n) x0 h = some (r, h')) (hro : retOk Try.f31 r = true) : D n_cur_Reader_Err [x0] h = some (r, h') :=
  den_at (by kernel_rfl) Try.func31 (c := cur_Reader_Err.c) (by kernel_rfl) (ne0 (by kernel_rfl)) (by kernel_rfl) n (by rw [show (pol.ann 31).1 = cur_Reader_Err.A by kernel_rfl, show (pol.ann 31).2 = cur_Reader_Err.an by kernel_rfl, body_real _ _ (by kernel_rfl)]; exact he) hro
noncomputable abbrev cur_Reader_At.JD (n : Nat) : Jn (AEnd × H) := cur_Reader_At.J D n
theorem cur_Reader_At.fx (n : Nat) : cur_Reader_At.F D n (cur_Reader_At.JD n) := realJ_fix
theorem cur_Reader_At.den (n : Nat) {x0 : AV} {h h' : H} {r : AEnd} (he : cur_Reader_At.f (cur_Reader_At.JD n) x0 h = some (r, h')) (hro : retOk Try.f32 r = true) : D n_cur_Reader_At [x0] h = some (r, h') :=
  den_at (by kernel_rfl) Try.func32 (c := cur_Reader_At.c) (by kernel_rfl) (ne0 (by kernel_rfl)) (by kernel_rfl) n (by rw [show (pol.ann 32).1 = cur_Reader_At.A by kernel_rfl, show (pol.ann 32).2 = cur_Reader_At.an by kernel_rfl, body_real _ _ (by kernel_rfl)]; exact he) hro
noncomputable abbrev ref02_Num.JD (n : Nat) : Jn (AEnd × H) := ref02_Num.J D n
theorem ref02_Num.fx (n : Nat) : ref02_Num.F D n (ref02_Num.JD n) := realJ_fix
theorem ref02_Num.den (n : Nat) {x0 : AV} {h h' : H} {v : AV} (hp : pureL [x0] = true) (he : ref02_Num.f (ref02_Num.JD n) x0 [] = some (.ret v, h')) (hw : v.pure = true) (hro : retOk Try.f33 (.ret v) = true) : D n_warrantorref02_Num [x0] h = some (.ret v, h) :=
  den_val0 (by kernel_rfl) Try.func33 (c := ref02_Num.c) (by kernel_rfl) (by kernel_rfl) (by kernel_rfl) n hp (by rw [show (pol.ann 33).1 = ref02_Num.A by kernel_rfl, show (pol.ann 33).2 = ref02_Num.an by kernel_rfl, body_real _ _ (by kernel_rfl)]; exact he) hw hro
noncomputable abbrev ref05_shares.JD (n : Nat) : Jn (AEnd × H) := ref05_shares.J D n
theorem ref05_shares.fx (n : Nat) : ref05_shares.F D n (ref05_shares.JD n) := realJ_fix
theorem ref05_shares.den (n : Nat) {x0 x1 : AV} {h h' : H} {v : AV} (hp : pureL [x0, x1] = true) (he : ref05_shares.f (ref05_shares.JD n) x0 x1 [] = some (.ret v, h')) (hw : v.pure = true) (hro : retOk Try.f34 (.ret v) = true) : D n_warrantorref05_shares [x0, x1] h = some (.ret v, h) :=
  den_val0 (by kernel_rfl) Try.func34 (c := ref05_shares.c) (by kernel_rfl) (by kernel_rfl) (by kernel_rfl) n hp (by rw [show (pol.ann 34).1 = ref05_shares.A by kernel_rfl, show (pol.ann 34).2 = ref05_shares.an by kernel_rfl, body_real _ _ (by kernel_rfl)]; exact he) hw hro
noncomputable abbrev ref02_Text.JD (n : Nat) : Jn (AEnd × H) := ref02_Text.J D n
theorem ref02_Text.fx (n : Nat) : ref02_Text.F D n (ref02_Text.JD n) := realJ_fix
theorem ref02_Text.den (n : Nat) {x0 : AV} {h h' : H} {v : AV} (hp : pureL [x0] = true) (he : ref02_Text.f (ref02_Text.JD n) x0 [] = some (.ret v, h')) (hw : v.pure = true) (hro : retOk Try.f35 (.ret v) = true) : D n_warrantorref02_Text [x0] h = some (.ret v, h) :=
  den_val0 (by kernel_rfl) Try.func35 (c := ref02_Text.c) (by kernel_rfl) (by kernel_rfl) (by kernel_rfl) n hp (by rw [show (pol.ann 35).1 = ref02_Text.A by kernel_rfl, show (pol.ann 35).2 = ref02_Text.an by kernel_rfl, body_real _ _ (by kernel_rfl)]; exact he) hw hro
noncomputable abbrev slices_BinarySearch_string_string.JD (n : Nat) : Jn (AEnd × H) := slices_BinarySearch_string_string.J D n
theorem slices_BinarySearch_string_string.fx (n : Nat) : slices_BinarySearch_string_string.F D n (slices_BinarySearch_string_string.JD n) := realJ_fix
theorem slices_BinarySearch_string_string.den (n : Nat) {x0 x1 : AV} {h h' : H} {v : AV} (hp : pureL [x0, x1] = true) (he : slices_BinarySearch_string_string.f (slices_BinarySearch_string_string.JD n) x0 x1 [] = some (.ret v, h')) (hw : v.pure = true) (hro : retOk Try.f39 (.ret v) = true) : D n_slices_BinarySearch_string_string [x0, x1] h = some (.ret v, h) :=
  den_val0 (by kernel_rfl) Try.func39 (c := slices_BinarySearch_string_string.c) (by kernel_rfl) (by kernel_rfl) (by kernel_rfl) n hp (by rw [show (pol.ann 39).1 = slices_BinarySearch_string_string.A by kernel_rfl, show (pol.ann 39).2 = slices_BinarySearch_string_string.an by kernel_rfl, body_real _ _ (by kernel_rfl)]; exact he) hw hro
noncomputable abbrev slices_Equal_string_string.JD (n : Nat) : Jn (AEnd × H) := slices_Equal_string_string.J D n
theorem slices_Equal_string_string.fx (n : Nat) : slices_Equal_string_string.F D n (slices_Equal_string_string.JD n) := realJ_fix
theorem slices_Equal_string_string.den (n : Nat) {x0 x1 : AV} {h h' : H} {v : AV} (hp : pureL [x0, x1] = true) (he : slices_Equal_string_string.f (slices_Equal_string_string.JD n) x0 x1 [] = some (.ret v, h')) (hw : v.pure = true) (hro : retOk Try.f40 (.ret v) = true) : D n_slices_Equal_string_string [x0, x1] h = some (.ret v, h) :=
  den_val0 (by kernel_rfl) Try.func40 (c := slices_Equal_string_string.c) (by kernel_rfl) (by kernel_rfl) (by kernel_rfl) n hp (by rw [show (pol.ann 40).1 = slices_Equal_string_string.A by kernel_rfl, show (pol.ann 40).2 = slices_Equal_string_string.an by kernel_rfl, body_real _ _ (by kernel_rfl)]; exact he) hw hro
noncomputable abbrev cur_Pen_put.JD (n : Nat) : Jn (AEnd × H) := cur_Pen_put.J D n
theorem cur_Pen_put.fx (n : Nat) : cur_Pen_put.F D n (cur_Pen_put.JD n) := realJ_fix
theorem cur_Pen_put.den (n : Nat) {x0 x1 : AV} {h h' : H} {r : AEnd} (he : cur_Pen_put.f (cur_Pen_put.JD n) x0 x1 h = some (r, h')) (hro : retOk Try.f41 r = true) : D n_cur_Pen_put [x0, x1] h = some (r, h') :=
  den_at (by kernel_rfl) Try.func41 (c := cur_Pen_put.c) (by kernel_rfl) (ne0 (by kernel_rfl)) (by kernel_rfl) n (by rw [show (pol.ann 41).1 = cur_Pen_put.A by kernel_rfl, show (pol.ann 41).2 = cur_Pen_put.an by kernel_rfl, body_real _ _ (by kernel_rfl)]; exact he) hro
noncomputable abbrev leb_Put.JD (n : Nat) : Jn (AEnd × H) := leb_Put.J D n
theorem leb_Put.fx (n : Nat) : leb_Put.F D n (leb_Put.JD n) := realJ_fix
theorem leb_Put.den (n : Nat) {x0 : AV} {h h' : H} {v : AV} (hp : pureL [x0] = true) (he : leb_Put.f (leb_Put.JD n) x0 [] = some (.ret v, h')) (hw : v.pure = true) (hro : retOk Try.f42 (.ret v) = true) : D n_leb_Put [x0] h = some (.ret v, h) :=
  den_val0 (by kernel_rfl) Try.func42 (c := leb_Put.c) (by kernel_rfl) (by kernel_rfl) (by kernel_rfl) n hp (by rw [show (pol.ann 42).1 = leb_Put.A by kernel_rfl, show (pol.ann 42).2 = leb_Put.an by kernel_rfl, body_real _ _ (by kernel_rfl)]; exact he) hw hro
noncomputable abbrev slices_IndexFunc_string_string.JD (n : Nat) : Jn (AEnd × H) := slices_IndexFunc_string_string.J D n
theorem slices_IndexFunc_string_string.fx (n : Nat) : slices_IndexFunc_string_string.F D n (slices_IndexFunc_string_string.JD n) := realJ_fix
theorem slices_IndexFunc_string_string.den (n : Nat) {x0 x1 : AV} {h h' : H} {v : AV} (hp : pureL [x0, x1] = true) (he : slices_IndexFunc_string_string.f (slices_IndexFunc_string_string.JD n) x0 x1 [] = some (.ret v, h')) (hw : v.pure = true) (hro : retOk Try.f44 (.ret v) = true) : D n_slices_IndexFunc_string_string [x0, x1] h = some (.ret v, h) :=
  den_val0 (by kernel_rfl) Try.func44 (c := slices_IndexFunc_string_string.c) (by kernel_rfl) (by kernel_rfl) (by kernel_rfl) n hp (by rw [show (pol.ann 44).1 = slices_IndexFunc_string_string.A by kernel_rfl, show (pol.ann 44).2 = slices_IndexFunc_string_string.an by kernel_rfl, body_real _ _ (by kernel_rfl)]; exact he) hw hro
noncomputable abbrev cur_ask_int.JD (n : Nat) : Jn (AEnd × H) := cur_ask_int.J D n
theorem cur_ask_int.fx (n : Nat) : cur_ask_int.F D n (cur_ask_int.JD n) := realJ_fix
theorem cur_ask_int.den (n : Nat) {x0 x1 : AV} {h h' : H} {r : AEnd} (he : cur_ask_int.f (cur_ask_int.JD n) x0 x1 h = some (r, h')) (hro : retOk Try.f45 r = true) : D n_cur_ask_int [x0, x1] h = some (r, h') :=
  den_at (by kernel_rfl) Try.func45 (c := cur_ask_int.c) (by kernel_rfl) (ne0 (by kernel_rfl)) (by kernel_rfl) n (by rw [show (pol.ann 45).1 = cur_ask_int.A by kernel_rfl, show (pol.ann 45).2 = cur_ask_int.an by kernel_rfl, body_real _ _ (by kernel_rfl)]; exact he) hro
noncomputable abbrev cur_Reader_Count_c1.JD (n : Nat) : Jn (AEnd × H) := cur_Reader_Count_c1.J D n
theorem cur_Reader_Count_c1.fx (n : Nat) : cur_Reader_Count_c1.F D n (cur_Reader_Count_c1.JD n) := realJ_fix
theorem cur_Reader_Count_c1.den (n : Nat) {x0 x1 : AV} {h h' : H} {r : AEnd} (he : cur_Reader_Count_c1.f (cur_Reader_Count_c1.JD n) x0 x1 h = some (r, h')) (hro : retOk Try.f46 r = true) : D n_cur_Reader_Count_c1 [x0, x1] h = some (r, h') :=
  den_at (by kernel_rfl) Try.func46 (c := cur_Reader_Count_c1.c) (by kernel_rfl) (ne0 (by kernel_rfl)) (by kernel_rfl) n (by rw [show (pol.ann 46).1 = cur_Reader_Count_c1.A by kernel_rfl, show (pol.ann 46).2 = cur_Reader_Count_c1.an by kernel_rfl, body_real _ _ (by kernel_rfl)]; exact he) hro
noncomputable abbrev cur_Reader_upto.JD (n : Nat) : Jn (AEnd × H) := cur_Reader_upto.J D n
theorem cur_Reader_upto.fx (n : Nat) : cur_Reader_upto.F D n (cur_Reader_upto.JD n) := realJ_fix
theorem cur_Reader_upto.den (n : Nat) {x0 x1 : AV} {h h' : H} {r : AEnd} (he : cur_Reader_upto.f (cur_Reader_upto.JD n) x0 x1 h = some (r, h')) (hro : retOk Try.f47 r = true) : D n_cur_Reader_upto [x0, x1] h = some (r, h') :=
  den_at (by kernel_rfl) Try.func47 (c := cur_Reader_upto.c) (by kernel_rfl) (ne0 (by kernel_rfl)) (by kernel_rfl) n (by rw [show (pol.ann 47).1 = cur_Reader_upto.A by kernel_rfl, show (pol.ann 47).2 = cur_Reader_upto.an by kernel_rfl, body_real _ _ (by kernel_rfl)]; exact he) hro
noncomputable abbrev cur_Reader_Text.JD (n : Nat) : Jn (AEnd × H) := cur_Reader_Text.J D n
theorem cur_Reader_Text.fx (n : Nat) : cur_Reader_Text.F D n (cur_Reader_Text.JD n) := realJ_fix
theorem cur_Reader_Text.den (n : Nat) {x0 x1 : AV} {h h' : H} {r : AEnd} (he : cur_Reader_Text.f (cur_Reader_Text.JD n) x0 x1 h = some (r, h')) (hro : retOk Try.f48 r = true) : D n_cur_Reader_Text [x0, x1] h = some (r, h') :=
  den_at (by kernel_rfl) Try.func48 (c := cur_Reader_Text.c) (by kernel_rfl) (ne0 (by kernel_rfl)) (by kernel_rfl) n (by rw [show (pol.ann 48).1 = cur_Reader_Text.A by kernel_rfl, show (pol.ann 48).2 = cur_Reader_Text.an by kernel_rfl, body_real _ _ (by kernel_rfl)]; exact he) hro
noncomputable abbrev strings_Clone.JD (n : Nat) : Jn (AEnd × H) := strings_Clone.J D n
theorem strings_Clone.fx (n : Nat) : strings_Clone.F D n (strings_Clone.JD n) := realJ_fix
theorem strings_Clone.den (n : Nat) {x0 : AV} {h h' : H} {v : AV} (hp : pureL [x0] = true) (he : strings_Clone.f (strings_Clone.JD n) x0 [] = some (.ret v, h')) (hw : v.pure = true) (hro : retOk Try.f49 (.ret v) = true) : D n_strings_Clone [x0] h = some (.ret v, h) :=
  den_val0 (by kernel_rfl) Try.func49 (c := strings_Clone.c) (by kernel_rfl) (by kernel_rfl) (by kernel_rfl) n hp (by rw [show (pol.ann 49).1 = strings_Clone.A by kernel_rfl, show (pol.ann 49).2 = strings_Clone.an by kernel_rfl, body_real _ _ (by kernel_rfl)]; exact he) hw hro
noncomputable abbrev cur_Reader_Left.JD (n : Nat) : Jn (AEnd × H) := cur_Reader_Left.J D n
theorem cur_Reader_Left.fx (n : Nat) : cur_Reader_Left.F D n (cur_Reader_Left.JD n) := realJ_fix
theorem cur_Reader_Left.den (n : Nat) {x0 : AV} {h h' : H} {r : AEnd} (he : cur_Reader_Left.f (cur_Reader_Left.JD n) x0 h = some (r, h')) (hro : retOk Try.f50 r = true) : D n_cur_Reader_Left [x0] h = some (r, h') :=
  den_at (by kernel_rfl) Try.func50 (c := cur_Reader_Left.c) (by kernel_rfl) (ne0 (by kernel_rfl)) (by kernel_rfl) n (by rw [show (pol.ann 50).1 = cur_Reader_Left.A by kernel_rfl, show (pol.ann 50).2 = cur_Reader_Left.an by kernel_rfl, body_real _ _ (by kernel_rfl)]; exact he) hro
noncomputable abbrev cur_Reader_Fail.JD (n : Nat) : Jn (AEnd × H) := cur_Reader_Fail.J D n
theorem cur_Reader_Fail.fx (n : Nat) : cur_Reader_Fail.F D n (cur_Reader_Fail.JD n) := realJ_fix
theorem cur_Reader_Fail.den (n : Nat) {x0 x1 : AV} {h h' : H} {r : AEnd} (he : cur_Reader_Fail.f (cur_Reader_Fail.JD n) x0 x1 h = some (r, h')) (hro : retOk Try.f51 r = true) : D n_cur_Reader_Fail [x0, x1] h = some (r, h') :=
  den_at (by kernel_rfl) Try.func51 (c := cur_Reader_Fail.c) (by kernel_rfl) (ne0 (by kernel_rfl)) (by kernel_rfl) n (by rw [show (pol.ann 51).1 = cur_Reader_Fail.A by kernel_rfl, show (pol.ann 51).2 = cur_Reader_Fail.an by kernel_rfl, body_real _ _ (by kernel_rfl)]; exact he) hro
noncomputable abbrev ref01_Put.JD (n : Nat) : Jn (AEnd × H) := ref01_Put.J D n
theorem ref01_Put.fx (n : Nat) : ref01_Put.F D n (ref01_Put.JD n) := realJ_fix
theorem ref01_Put.den (n : Nat) {x0 : AV} {h h' : H} {v : AV} (hp : pureL [x0] = true) (he : ref01_Put.f (ref01_Put.JD n) x0 [] = some (.ret v, h')) (hw : v.pure = true) (hro : retOk Try.f52 (.ret v) = true) : D n_warrantorref01_Put [x0] h = some (.ret v, h) :=
  den_val0 (by kernel_rfl) Try.func52 (c := ref01_Put.c) (by kernel_rfl) (by kernel_rfl) (by kernel_rfl) n hp (by rw [show (pol.ann 52).1 = ref01_Put.A by kernel_rfl, show (pol.ann 52).2 = ref01_Put.an by kernel_rfl, body_real _ _ (by kernel_rfl)]; exact he) hw hro
noncomputable abbrev cmp_Less_string.JD (n : Nat) : Jn (AEnd × H) := cmp_Less_string.J D n
theorem cmp_Less_string.fx (n : Nat) : cmp_Less_string.F D n (cmp_Less_string.JD n) := realJ_fix
theorem cmp_Less_string.den (n : Nat) {x0 x1 : AV} {h h' : H} {v : AV} (hp : pureL [x0, x1] = true) (he : cmp_Less_string.f (cmp_Less_string.JD n) x0 x1 [] = some (.ret v, h')) (hw : v.pure = true) (hro : retOk Try.f55 (.ret v) = true) : D n_cmp_Less_string [x0, x1] h = some (.ret v, h) :=
  den_val0 (by kernel_rfl) Try.func55 (c := cmp_Less_string.c) (by kernel_rfl) (by kernel_rfl) (by kernel_rfl) n hp (by rw [show (pol.ann 55).1 = cmp_Less_string.A by kernel_rfl, show (pol.ann 55).2 = cmp_Less_string.an by kernel_rfl, body_real _ _ (by kernel_rfl)]; exact he) hw hro
noncomputable abbrev slices_isNaN_string.JD (n : Nat) : Jn (AEnd × H) := slices_isNaN_string.J D n
theorem slices_isNaN_string.fx (n : Nat) : slices_isNaN_string.F D n (slices_isNaN_string.JD n) := realJ_fix
theorem slices_isNaN_string.den (n : Nat) {x0 : AV} {h h' : H} {v : AV} (hp : pureL [x0] = true) (he : slices_isNaN_string.f (slices_isNaN_string.JD n) x0 [] = some (.ret v, h')) (hw : v.pure = true) (hro : retOk Try.f56 (.ret v) = true) : D n_slices_isNaN_string [x0] h = some (.ret v, h) :=
  den_val0 (by kernel_rfl) Try.func56 (c := slices_isNaN_string.c) (by kernel_rfl) (by kernel_rfl) (by kernel_rfl) n hp (by rw [show (pol.ann 56).1 = slices_isNaN_string.A by kernel_rfl, show (pol.ann 56).2 = slices_isNaN_string.an by kernel_rfl, body_real _ _ (by kernel_rfl)]; exact he) hw hro
noncomputable abbrev cur_Reader_number.JD (n : Nat) : Jn (AEnd × H) := cur_Reader_number.J D n
theorem cur_Reader_number.fx (n : Nat) : cur_Reader_number.F D n (cur_Reader_number.JD n) := realJ_fix
theorem cur_Reader_number.den (n : Nat) {x0 : AV} {h h' : H} {r : AEnd} (he : cur_Reader_number.f (cur_Reader_number.JD n) x0 h = some (r, h')) (hro : retOk Try.f58 r = true) : D n_cur_Reader_number [x0] h = some (r, h') :=
  den_at (by kernel_rfl) Try.func58 (c := cur_Reader_number.c) (by kernel_rfl) (ne0 (by kernel_rfl)) (by kernel_rfl) n (by rw [show (pol.ann 58).1 = cur_Reader_number.A by kernel_rfl, show (pol.ann 58).2 = cur_Reader_number.an by kernel_rfl, body_real _ _ (by kernel_rfl)]; exact he) hro
noncomputable abbrev cur_ask_string.JD (n : Nat) : Jn (AEnd × H) := cur_ask_string.J D n
theorem cur_ask_string.fx (n : Nat) : cur_ask_string.F D n (cur_ask_string.JD n) := realJ_fix
theorem cur_ask_string.den (n : Nat) {x0 x1 : AV} {h h' : H} {r : AEnd} (he : cur_ask_string.f (cur_ask_string.JD n) x0 x1 h = some (r, h')) (hro : retOk Try.f59 r = true) : D n_cur_ask_string [x0, x1] h = some (r, h') :=
  den_at (by kernel_rfl) Try.func59 (c := cur_ask_string.c) (by kernel_rfl) (ne0 (by kernel_rfl)) (by kernel_rfl) n (by rw [show (pol.ann 59).1 = cur_ask_string.A by kernel_rfl, show (pol.ann 59).2 = cur_ask_string.an by kernel_rfl, body_real _ _ (by kernel_rfl)]; exact he) hro
noncomputable abbrev cur_Reader_Text_c1.JD (n : Nat) : Jn (AEnd × H) := cur_Reader_Text_c1.J D n
theorem cur_Reader_Text_c1.fx (n : Nat) : cur_Reader_Text_c1.F D n (cur_Reader_Text_c1.JD n) := realJ_fix
theorem cur_Reader_Text_c1.den (n : Nat) {x0 x1 : AV} {h h' : H} {r : AEnd} (he : cur_Reader_Text_c1.f (cur_Reader_Text_c1.JD n) x0 x1 h = some (r, h')) (hro : retOk Try.f60 r = true) : D n_cur_Reader_Text_c1 [x0, x1] h = some (r, h') :=
  den_at (by kernel_rfl) Try.func60 (c := cur_Reader_Text_c1.c) (by kernel_rfl) (ne0 (by kernel_rfl)) (by kernel_rfl) n (by rw [show (pol.ann 60).1 = cur_Reader_Text_c1.A by kernel_rfl, show (pol.ann 60).2 = cur_Reader_Text_c1.an by kernel_rfl, body_real _ _ (by kernel_rfl)]; exact he) hro
noncomputable abbrev cur_Reader_take.JD (n : Nat) : Jn (AEnd × H) := cur_Reader_take.J D n
theorem cur_Reader_take.fx (n : Nat) : cur_Reader_take.F D n (cur_Reader_take.JD n) := realJ_fix
theorem cur_Reader_take.den (n : Nat) {x0 x1 : AV} {h h' : H} {r : AEnd} (he : cur_Reader_take.f (cur_Reader_take.JD n) x0 x1 h = some (r, h')) (hro : retOk Try.f61 r = true) : D n_cur_Reader_take [x0, x1] h = some (r, h') :=
  den_at (by kernel_rfl) Try.func61 (c := cur_Reader_take.c) (by kernel_rfl) (ne0 (by kernel_rfl)) (by kernel_rfl) n (by rw [show (pol.ann 61).1 = cur_Reader_take.A by kernel_rfl, show (pol.ann 61).2 = cur_Reader_take.an by kernel_rfl, body_real _ _ (by kernel_rfl)]; exact he) hro
noncomputable abbrev cmp_isNaN_string.JD (n : Nat) : Jn (AEnd × H) := cmp_isNaN_string.J D n
theorem cmp_isNaN_string.fx (n : Nat) : cmp_isNaN_string.F D n (cmp_isNaN_string.JD n) := realJ_fix
theorem cmp_isNaN_string.den (n : Nat) {x0 : AV} {h h' : H} {v : AV} (hp : pureL [x0] = true) (he : cmp_isNaN_string.f (cmp_isNaN_string.JD n) x0 [] = some (.ret v, h')) (hw : v.pure = true) (hro : retOk Try.f73 (.ret v) = true) : D n_cmp_isNaN_string [x0] h = some (.ret v, h) :=
  den_val0 (by kernel_rfl) Try.func73 (c := cmp_isNaN_string.c) (by kernel_rfl) (by kernel_rfl) (by kernel_rfl) n hp (by rw [show (pol.ann 73).1 = cmp_isNaN_string.A by kernel_rfl, show (pol.ann 73).2 = cmp_isNaN_string.an by kernel_rfl, body_real _ _ (by kernel_rfl)]; exact he) hw hro
noncomputable abbrev leb_Get.JD (n : Nat) : Jn (AEnd × H) := leb_Get.J D n
theorem leb_Get.fx (n : Nat) : leb_Get.F D n (leb_Get.JD n) := realJ_fix
theorem leb_Get.den (n : Nat) {x0 : AV} {h h' : H} {v : AV} (hp : pureL [x0] = true) (he : leb_Get.f (leb_Get.JD n) x0 [] = some (.ret v, h')) (hw : v.pure = true) (hro : retOk Try.f74 (.ret v) = true) : D n_leb_Get [x0] h = some (.ret v, h) :=
  den_val0 (by kernel_rfl) Try.func74 (c := leb_Get.c) (by kernel_rfl) (by kernel_rfl) (by kernel_rfl) n hp (by rw [show (pol.ann 74).1 = leb_Get.A by kernel_rfl, show (pol.ann 74).2 = leb_Get.an by kernel_rfl, body_real _ _ (by kernel_rfl)]; exact he) hw hro
end Go.Proofs.Ytficgmeakeiacaa
