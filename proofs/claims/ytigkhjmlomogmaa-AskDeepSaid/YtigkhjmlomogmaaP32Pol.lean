/- The functions, as the evaluator sees them: printed by a program. -/
import Derived.Test.YtigkhjmlomogmaaP32G1
import Derived.Test.YtigkhjmlomogmaaVa4
set_option linter.all false

open Go Go.Ve Go.Proofs
namespace Go.Proofs.Ytigkhjmlomogmaa
set_option maxRecDepth 100000

noncomputable def tab : List (Nat × FAnn × Ann) := [(3, warrantorlaw32_AskParts.A, warrantorlaw32_AskParts.an), (4, warrantorlaw32_AskNots.A, warrantorlaw32_AskNots.an), (5, warrantorlaw32_AskDeep.A, warrantorlaw32_AskDeep.an), (6, warrantorref32_Large.A, warrantorref32_Large.an), (7, warrantorlaw32_lives.A, warrantorlaw32_lives.an), (8, ask_Parts.A, ask_Parts.an), (9, warrantorref32_Filter.A, warrantorref32_Filter.an), (10, warrantorref32_Parts.A, warrantorref32_Parts.an), (11, warrantorref32_SameTerms.A, warrantorref32_SameTerms.an), (12, ask_Filter.A, ask_Filter.an), (13, ask_Not.A, ask_Not.an), (14, warrantorref32_Not.A, warrantorref32_Not.an), (15, ask_Nest.A, ask_Nest.an), (16, ask_Plain.A, ask_Plain.an), (17, ask_Check.A, ask_Check.an), (18, ask_Same.A, ask_Same.an), (19, ask_about.A, ask_about.an), (20, ask_parts.A, ask_parts.an), (22, warrantorref32_Take.A, warrantorref32_Take.an), (23, ask_taker_take.A, ask_taker_take.an), (24, ask_without.A, ask_without.an), (25, ask_within.A, ask_within.an), (26, slices_Equal_api_Term_api_Term.A, slices_Equal_api_Term_api_Term.an), (27, ask_compares.A, ask_compares.an), (28, warrantorref32_Cmp.A, warrantorref32_Cmp.an), (29, warrantorref32_plain.A, warrantorref32_plain.an), (30, slices_Concat_api_Term_api_Term.A, slices_Concat_api_Term_api_Term.an), (31, ask_shapes.A, ask_shapes.an), (32, strings_IndexByte.A, strings_IndexByte.an), (33, warrantorref32_text.A, warrantorref32_text.an), (34, warrantorref19_Parse.A, warrantorref19_Parse.an), (36, ask_plain.A, ask_plain.an), (37, ask_none.A, ask_none.an), (38, ask_sum.A, ask_sum.an), (39, stringslite_IndexByte.A, stringslite_IndexByte.an), (40, warrantorref17_Expr.A, warrantorref17_Expr.an), (41, ask_plain_c1.A, ask_plain_c1.an), (42, strings_ContainsFunc.A, strings_ContainsFunc.an), (43, fnv_Parse.A, fnv_Parse.an), (45, strings_IndexFunc.A, strings_IndexFunc.an), (46, strings_indexFunc.A, strings_indexFunc.an)]
def here : List Nat := [23]
noncomputable def exts : List (Nat × (List AV → H → Option (AEnd × H))) := [(21, cloneE 5 48), (35, growNil 5 48), (44, indexByte)]
noncomputable def pol : Pol := tabPol tab here exts
noncomputable abbrev D : Cl := den Try.prog pol

noncomputable abbrev warrantorlaw32_AskParts.JD (n : Nat) : Jn (AEnd × H) := warrantorlaw32_AskParts.J D n
theorem warrantorlaw32_AskParts.fx (n : Nat) : warrantorlaw32_AskParts.F D n (warrantorlaw32_AskParts.JD n) := realJ_fix
theorem warrantorlaw32_AskParts.den (n : Nat) {x0 : AV} {h h' : H} {v : AV} (hp : pureL [x0] = true) (he : warrantorlaw32_AskParts.f (warrantorlaw32_AskParts.JD n) x0 [] = some (.ret v, h')) (hw : v.pure = true) (hro : retOk Try.f3 (.ret v) = true) : D 3 [x0] h = some (.ret v, h) :=
  den_val0 (by kernel_rfl) Try.func3 (c := warrantorlaw32_AskParts.c) (by kernel_rfl) (by kernel_rfl) (by kernel_rfl) n hp (by rw [show (pol.ann 3).1 = warrantorlaw32_AskParts.A by kernel_rfl, show (pol.ann 3).2 = warrantorlaw32_AskParts.an by kernel_rfl, body_real _ _ (by kernel_rfl)]; exact he) hw hro
noncomputable abbrev warrantorlaw32_AskNots.JD (n : Nat) : Jn (AEnd × H) := warrantorlaw32_AskNots.J D n
theorem warrantorlaw32_AskNots.fx (n : Nat) : warrantorlaw32_AskNots.F D n (warrantorlaw32_AskNots.JD n) := realJ_fix
theorem warrantorlaw32_AskNots.den (n : Nat) {x0 : AV} {h h' : H} {v : AV} (hp : pureL [x0] = true) (he : warrantorlaw32_AskNots.f (warrantorlaw32_AskNots.JD n) x0 [] = some (.ret v, h')) (hw : v.pure = true) (hro : retOk Try.f4 (.ret v) = true) : D 4 [x0] h = some (.ret v, h) :=
  den_val0 (by kernel_rfl) Try.func4 (c := warrantorlaw32_AskNots.c) (by kernel_rfl) (by kernel_rfl) (by kernel_rfl) n hp (by rw [show (pol.ann 4).1 = warrantorlaw32_AskNots.A by kernel_rfl, show (pol.ann 4).2 = warrantorlaw32_AskNots.an by kernel_rfl, body_real _ _ (by kernel_rfl)]; exact he) hw hro
noncomputable abbrev warrantorlaw32_AskDeep.JD (n : Nat) : Jn (AEnd × H) := warrantorlaw32_AskDeep.J D n
theorem warrantorlaw32_AskDeep.fx (n : Nat) : warrantorlaw32_AskDeep.F D n (warrantorlaw32_AskDeep.JD n) := realJ_fix
theorem warrantorlaw32_AskDeep.den (n : Nat) {x0 : AV} {h h' : H} {v : AV} (hp : pureL [x0] = true) (he : warrantorlaw32_AskDeep.f (warrantorlaw32_AskDeep.JD n) x0 [] = some (.ret v, h')) (hw : v.pure = true) (hro : retOk Try.f5 (.ret v) = true) : D 5 [x0] h = some (.ret v, h) :=
  den_val0 (by kernel_rfl) Try.func5 (c := warrantorlaw32_AskDeep.c) (by kernel_rfl) (by kernel_rfl) (by kernel_rfl) n hp (by rw [show (pol.ann 5).1 = warrantorlaw32_AskDeep.A by kernel_rfl, show (pol.ann 5).2 = warrantorlaw32_AskDeep.an by kernel_rfl, body_real _ _ (by kernel_rfl)]; exact he) hw hro
noncomputable abbrev warrantorref32_Large.JD (n : Nat) : Jn (AEnd × H) := warrantorref32_Large.J D n
theorem warrantorref32_Large.fx (n : Nat) : warrantorref32_Large.F D n (warrantorref32_Large.JD n) := realJ_fix
theorem warrantorref32_Large.den (n : Nat) {x0 : AV} {h h' : H} {v : AV} (hp : pureL [x0] = true) (he : warrantorref32_Large.f (warrantorref32_Large.JD n) x0 [] = some (.ret v, h')) (hw : v.pure = true) (hro : retOk Try.f6 (.ret v) = true) : D 6 [x0] h = some (.ret v, h) :=
  den_val0 (by kernel_rfl) Try.func6 (c := warrantorref32_Large.c) (by kernel_rfl) (by kernel_rfl) (by kernel_rfl) n hp (by rw [show (pol.ann 6).1 = warrantorref32_Large.A by kernel_rfl, show (pol.ann 6).2 = warrantorref32_Large.an by kernel_rfl, body_real _ _ (by kernel_rfl)]; exact he) hw hro
noncomputable abbrev warrantorlaw32_lives.JD (n : Nat) : Jn (AEnd × H) := warrantorlaw32_lives.J D n
theorem warrantorlaw32_lives.fx (n : Nat) : warrantorlaw32_lives.F D n (warrantorlaw32_lives.JD n) := realJ_fix
theorem warrantorlaw32_lives.den (n : Nat) {h h' : H} {v : AV} (hp : pureL [] = true) (he : warrantorlaw32_lives.f (warrantorlaw32_lives.JD n)  [] = some (.ret v, h')) (hw : v.pure = true) (hro : retOk Try.f7 (.ret v) = true) : D 7 [] h = some (.ret v, h) :=
  den_val0 (by kernel_rfl) Try.func7 (c := warrantorlaw32_lives.c) (by kernel_rfl) (by kernel_rfl) (by kernel_rfl) n hp (by rw [show (pol.ann 7).1 = warrantorlaw32_lives.A by kernel_rfl, show (pol.ann 7).2 = warrantorlaw32_lives.an by kernel_rfl, body_real _ _ (by kernel_rfl)]; exact he) hw hro
noncomputable abbrev ask_Parts.JD (n : Nat) : Jn (AEnd × H) := ask_Parts.J D n
theorem ask_Parts.fx (n : Nat) : ask_Parts.F D n (ask_Parts.JD n) := realJ_fix
theorem ask_Parts.den (n : Nat) {x0 : AV} {h h' : H} {v : AV} (hp : pureL [x0] = true) (he : ask_Parts.f (ask_Parts.JD n) x0 [] = some (.ret v, h')) (hw : v.pure = true) (hro : retOk Try.f8 (.ret v) = true) : D 8 [x0] h = some (.ret v, h) :=
  den_val0 (by kernel_rfl) Try.func8 (c := ask_Parts.c) (by kernel_rfl) (by kernel_rfl) (by kernel_rfl) n hp (by rw [show (pol.ann 8).1 = ask_Parts.A by kernel_rfl, show (pol.ann 8).2 = ask_Parts.an by kernel_rfl, body_real _ _ (by kernel_rfl)]; exact he) hw hro
noncomputable abbrev warrantorref32_Filter.JD (n : Nat) : Jn (AEnd × H) := warrantorref32_Filter.J D n
theorem warrantorref32_Filter.fx (n : Nat) : warrantorref32_Filter.F D n (warrantorref32_Filter.JD n) := realJ_fix
theorem warrantorref32_Filter.den (n : Nat) {x0 : AV} {h h' : H} {v : AV} (hp : pureL [x0] = true) (he : warrantorref32_Filter.f (warrantorref32_Filter.JD n) x0 [] = some (.ret v, h')) (hw : v.pure = true) (hro : retOk Try.f9 (.ret v) = true) : D 9 [x0] h = some (.ret v, h) :=
  den_val0 (by kernel_rfl) Try.func9 (c := warrantorref32_Filter.c) (by kernel_rfl) (by kernel_rfl) (by kernel_rfl) n hp (by rw [show (pol.ann 9).1 = warrantorref32_Filter.A by kernel_rfl, show (pol.ann 9).2 = warrantorref32_Filter.an by kernel_rfl, body_real _ _ (by kernel_rfl)]; exact he) hw hro
noncomputable abbrev warrantorref32_Parts.JD (n : Nat) : Jn (AEnd × H) := warrantorref32_Parts.J D n
theorem warrantorref32_Parts.fx (n : Nat) : warrantorref32_Parts.F D n (warrantorref32_Parts.JD n) := realJ_fix
theorem warrantorref32_Parts.den (n : Nat) {x0 : AV} {h h' : H} {v : AV} (hp : pureL [x0] = true) (he : warrantorref32_Parts.f (warrantorref32_Parts.JD n) x0 [] = some (.ret v, h')) (hw : v.pure = true) (hro : retOk Try.f10 (.ret v) = true) : D 10 [x0] h = some (.ret v, h) :=
  den_val0 (by kernel_rfl) Try.func10 (c := warrantorref32_Parts.c) (by kernel_rfl) (by kernel_rfl) (by kernel_rfl) n hp (by rw [show (pol.ann 10).1 = warrantorref32_Parts.A by kernel_rfl, show (pol.ann 10).2 = warrantorref32_Parts.an by kernel_rfl, body_real _ _ (by kernel_rfl)]; exact he) hw hro
noncomputable abbrev warrantorref32_SameTerms.JD (n : Nat) : Jn (AEnd × H) := warrantorref32_SameTerms.J D n
theorem warrantorref32_SameTerms.fx (n : Nat) : warrantorref32_SameTerms.F D n (warrantorref32_SameTerms.JD n) := realJ_fix
theorem warrantorref32_SameTerms.den (n : Nat) {x0 x1 : AV} {h h' : H} {v : AV} (hp : pureL [x0, x1] = true) (he : warrantorref32_SameTerms.f (warrantorref32_SameTerms.JD n) x0 x1 [] = some (.ret v, h')) (hw : v.pure = true) (hro : retOk Try.f11 (.ret v) = true) : D 11 [x0, x1] h = some (.ret v, h) :=
  den_val0 (by kernel_rfl) Try.func11 (c := warrantorref32_SameTerms.c) (by kernel_rfl) (by kernel_rfl) (by kernel_rfl) n hp (by rw [show (pol.ann 11).1 = warrantorref32_SameTerms.A by kernel_rfl, show (pol.ann 11).2 = warrantorref32_SameTerms.an by kernel_rfl, body_real _ _ (by kernel_rfl)]; exact he) hw hro
noncomputable abbrev ask_Filter.JD (n : Nat) : Jn (AEnd × H) := ask_Filter.J D n
theorem ask_Filter.fx (n : Nat) : ask_Filter.F D n (ask_Filter.JD n) := realJ_fix
theorem ask_Filter.den (n : Nat) {x0 : AV} {h h' : H} {v : AV} (hp : pureL [x0] = true) (he : ask_Filter.f (ask_Filter.JD n) x0 [] = some (.ret v, h')) (hw : v.pure = true) (hro : retOk Try.f12 (.ret v) = true) : D 12 [x0] h = some (.ret v, h) :=
  den_val0 (by kernel_rfl) Try.func12 (c := ask_Filter.c) (by kernel_rfl) (by kernel_rfl) (by kernel_rfl) n hp (by rw [show (pol.ann 12).1 = ask_Filter.A by kernel_rfl, show (pol.ann 12).2 = ask_Filter.an by kernel_rfl, body_real _ _ (by kernel_rfl)]; exact he) hw hro
noncomputable abbrev ask_Not.JD (n : Nat) : Jn (AEnd × H) := ask_Not.J D n
theorem ask_Not.fx (n : Nat) : ask_Not.F D n (ask_Not.JD n) := realJ_fix
theorem ask_Not.den (n : Nat) {x0 : AV} {h h' : H} {v : AV} (hp : pureL [x0] = true) (he : ask_Not.f (ask_Not.JD n) x0 [] = some (.ret v, h')) (hw : v.pure = true) (hro : retOk Try.f13 (.ret v) = true) : D 13 [x0] h = some (.ret v, h) :=
  den_val0 (by kernel_rfl) Try.func13 (c := ask_Not.c) (by kernel_rfl) (by kernel_rfl) (by kernel_rfl) n hp (by rw [show (pol.ann 13).1 = ask_Not.A by kernel_rfl, show (pol.ann 13).2 = ask_Not.an by kernel_rfl, body_real _ _ (by kernel_rfl)]; exact he) hw hro
noncomputable abbrev warrantorref32_Not.JD (n : Nat) : Jn (AEnd × H) := warrantorref32_Not.J D n
theorem warrantorref32_Not.fx (n : Nat) : warrantorref32_Not.F D n (warrantorref32_Not.JD n) := realJ_fix
theorem warrantorref32_Not.den (n : Nat) {x0 x1 : AV} {h h' : H} {v : AV} (hp : pureL [x0, x1] = true) (he : warrantorref32_Not.f (warrantorref32_Not.JD n) x0 x1 [] = some (.ret v, h')) (hw : v.pure = true) (hro : retOk Try.f14 (.ret v) = true) : D 14 [x0, x1] h = some (.ret v, h) :=
  den_val0 (by kernel_rfl) Try.func14 (c := warrantorref32_Not.c) (by kernel_rfl) (by kernel_rfl) (by kernel_rfl) n hp (by rw [show (pol.ann 14).1 = warrantorref32_Not.A by kernel_rfl, show (pol.ann 14).2 = warrantorref32_Not.an by kernel_rfl, body_real _ _ (by kernel_rfl)]; exact he) hw hro
noncomputable abbrev ask_Nest.JD (n : Nat) : Jn (AEnd × H) := ask_Nest.J D n
theorem ask_Nest.fx (n : Nat) : ask_Nest.F D n (ask_Nest.JD n) := realJ_fix
theorem ask_Nest.den (n : Nat) {x0 : AV} {h h' : H} {v : AV} (hp : pureL [x0] = true) (he : ask_Nest.f (ask_Nest.JD n) x0 [] = some (.ret v, h')) (hw : v.pure = true) (hro : retOk Try.f15 (.ret v) = true) : D 15 [x0] h = some (.ret v, h) :=
  den_val0 (by kernel_rfl) Try.func15 (c := ask_Nest.c) (by kernel_rfl) (by kernel_rfl) (by kernel_rfl) n hp (by rw [show (pol.ann 15).1 = ask_Nest.A by kernel_rfl, show (pol.ann 15).2 = ask_Nest.an by kernel_rfl, body_real _ _ (by kernel_rfl)]; exact he) hw hro
noncomputable abbrev ask_Plain.JD (n : Nat) : Jn (AEnd × H) := ask_Plain.J D n
theorem ask_Plain.fx (n : Nat) : ask_Plain.F D n (ask_Plain.JD n) := realJ_fix
theorem ask_Plain.den (n : Nat) {h h' : H} {v : AV} (hp : pureL [] = true) (he : ask_Plain.f (ask_Plain.JD n)  [] = some (.ret v, h')) (hw : v.pure = true) (hro : retOk Try.f16 (.ret v) = true) : D 16 [] h = some (.ret v, h) :=
  den_val0 (by kernel_rfl) Try.func16 (c := ask_Plain.c) (by kernel_rfl) (by kernel_rfl) (by kernel_rfl) n hp (by rw [show (pol.ann 16).1 = ask_Plain.A by kernel_rfl, show (pol.ann 16).2 = ask_Plain.an by kernel_rfl, body_real _ _ (by kernel_rfl)]; exact he) hw hro
noncomputable abbrev ask_Check.JD (n : Nat) : Jn (AEnd × H) := ask_Check.J D n
theorem ask_Check.fx (n : Nat) : ask_Check.F D n (ask_Check.JD n) := realJ_fix
theorem ask_Check.den (n : Nat) {x0 : AV} {h h' : H} {v : AV} (hp : pureL [x0] = true) (he : ask_Check.f (ask_Check.JD n) x0 [] = some (.ret v, h')) (hw : v.pure = true) (hro : retOk Try.f17 (.ret v) = true) : D 17 [x0] h = some (.ret v, h) :=
  den_val0 (by kernel_rfl) Try.func17 (c := ask_Check.c) (by kernel_rfl) (by kernel_rfl) (by kernel_rfl) n hp (by rw [show (pol.ann 17).1 = ask_Check.A by kernel_rfl, show (pol.ann 17).2 = ask_Check.an by kernel_rfl, body_real _ _ (by kernel_rfl)]; exact he) hw hro
noncomputable abbrev ask_Same.JD (n : Nat) : Jn (AEnd × H) := ask_Same.J D n
theorem ask_Same.fx (n : Nat) : ask_Same.F D n (ask_Same.JD n) := realJ_fix
theorem ask_Same.den (n : Nat) {x0 x1 : AV} {h h' : H} {v : AV} (hp : pureL [x0, x1] = true) (he : ask_Same.f (ask_Same.JD n) x0 x1 [] = some (.ret v, h')) (hw : v.pure = true) (hro : retOk Try.f18 (.ret v) = true) : D 18 [x0, x1] h = some (.ret v, h) :=
  den_val0 (by kernel_rfl) Try.func18 (c := ask_Same.c) (by kernel_rfl) (by kernel_rfl) (by kernel_rfl) n hp (by rw [show (pol.ann 18).1 = ask_Same.A by kernel_rfl, show (pol.ann 18).2 = ask_Same.an by kernel_rfl, body_real _ _ (by kernel_rfl)]; exact he) hw hro
noncomputable abbrev ask_about.JD (n : Nat) : Jn (AEnd × H) := ask_about.J D n
theorem ask_about.fx (n : Nat) : ask_about.F D n (ask_about.JD n) := realJ_fix
theorem ask_about.den (n : Nat) {x0 : AV} {h h' : H} {v : AV} (hp : pureL [x0] = true) (he : ask_about.f (ask_about.JD n) x0 [] = some (.ret v, h')) (hw : v.pure = true) (hro : retOk Try.f19 (.ret v) = true) : D 19 [x0] h = some (.ret v, h) :=
  den_val0 (by kernel_rfl) Try.func19 (c := ask_about.c) (by kernel_rfl) (by kernel_rfl) (by kernel_rfl) n hp (by rw [show (pol.ann 19).1 = ask_about.A by kernel_rfl, show (pol.ann 19).2 = ask_about.an by kernel_rfl, body_real _ _ (by kernel_rfl)]; exact he) hw hro
noncomputable abbrev ask_parts.JD (n : Nat) : Jn (AEnd × H) := ask_parts.J D n
theorem ask_parts.fx (n : Nat) : ask_parts.F D n (ask_parts.JD n) := realJ_fix
theorem ask_parts.den (n : Nat) {x0 : AV} {h h' : H} {v : AV} (hp : pureL [x0] = true) (he : ask_parts.f (ask_parts.JD n) x0 [] = some (.ret v, h')) (hw : v.pure = true) (hro : retOk Try.f20 (.ret v) = true) : D 20 [x0] h = some (.ret v, h) :=
  den_val0 (by kernel_rfl) Try.func20 (c := ask_parts.c) (by kernel_rfl) (by kernel_rfl) (by kernel_rfl) n hp (by rw [show (pol.ann 20).1 = ask_parts.A by kernel_rfl, show (pol.ann 20).2 = ask_parts.an by kernel_rfl, body_real _ _ (by kernel_rfl)]; exact he) hw hro
noncomputable abbrev warrantorref32_Take.JD (n : Nat) : Jn (AEnd × H) := warrantorref32_Take.J D n
theorem warrantorref32_Take.fx (n : Nat) : warrantorref32_Take.F D n (warrantorref32_Take.JD n) := realJ_fix
theorem warrantorref32_Take.den (n : Nat) {x0 : AV} {h h' : H} {v : AV} (hp : pureL [x0] = true) (he : warrantorref32_Take.f (warrantorref32_Take.JD n) x0 [] = some (.ret v, h')) (hw : v.pure = true) (hro : retOk Try.f22 (.ret v) = true) : D 22 [x0] h = some (.ret v, h) :=
  den_val0 (by kernel_rfl) Try.func22 (c := warrantorref32_Take.c) (by kernel_rfl) (by kernel_rfl) (by kernel_rfl) n hp (by rw [show (pol.ann 22).1 = warrantorref32_Take.A by kernel_rfl, show (pol.ann 22).2 = warrantorref32_Take.an by kernel_rfl, body_real _ _ (by kernel_rfl)]; exact he) hw hro
noncomputable abbrev ask_taker_take.JD (n : Nat) : Jn (AEnd × H) := ask_taker_take.J D n
theorem ask_taker_take.fx (n : Nat) : ask_taker_take.F D n (ask_taker_take.JD n) := realJ_fix
theorem ask_taker_take.den (n : Nat) {x0 x1 : AV} {h h' : H} {r : AEnd} (he : ask_taker_take.f (ask_taker_take.JD n) x0 x1 h = some (r, h')) (hro : retOk Try.f23 r = true) : D 23 [x0, x1] h = some (r, h') :=
  den_at (by kernel_rfl) Try.func23 (c := ask_taker_take.c) (by kernel_rfl) (ne0 (by kernel_rfl)) (by kernel_rfl) n (by rw [show (pol.ann 23).1 = ask_taker_take.A by kernel_rfl, show (pol.ann 23).2 = ask_taker_take.an by kernel_rfl, body_real _ _ (by kernel_rfl)]; exact he) hro
noncomputable abbrev ask_without.JD (n : Nat) : Jn (AEnd × H) := ask_without.J D n
theorem ask_without.fx (n : Nat) : ask_without.F D n (ask_without.JD n) := realJ_fix
theorem ask_without.den (n : Nat) {x0 x1 : AV} {h h' : H} {v : AV} (hp : pureL [x0, x1] = true) (he : ask_without.f (ask_without.JD n) x0 x1 [] = some (.ret v, h')) (hw : v.pure = true) (hro : retOk Try.f24 (.ret v) = true) : D 24 [x0, x1] h = some (.ret v, h) :=
  den_val0 (by kernel_rfl) Try.func24 (c := ask_without.c) (by kernel_rfl) (by kernel_rfl) (by kernel_rfl) n hp (by rw [show (pol.ann 24).1 = ask_without.A by kernel_rfl, show (pol.ann 24).2 = ask_without.an by kernel_rfl, body_real _ _ (by kernel_rfl)]; exact he) hw hro
noncomputable abbrev ask_within.JD (n : Nat) : Jn (AEnd × H) := ask_within.J D n
theorem ask_within.fx (n : Nat) : ask_within.F D n (ask_within.JD n) := realJ_fix
theorem ask_within.den (n : Nat) {x0 x1 x2 : AV} {h h' : H} {v : AV} (hp : pureL [x0, x1, x2] = true) (he : ask_within.f (ask_within.JD n) x0 x1 x2 [] = some (.ret v, h')) (hw : v.pure = true) (hro : retOk Try.f25 (.ret v) = true) : D 25 [x0, x1, x2] h = some (.ret v, h) :=
  den_val0 (by kernel_rfl) Try.func25 (c := ask_within.c) (by kernel_rfl) (by kernel_rfl) (by kernel_rfl) n hp (by rw [show (pol.ann 25).1 = ask_within.A by kernel_rfl, show (pol.ann 25).2 = ask_within.an by kernel_rfl, body_real _ _ (by kernel_rfl)]; exact he) hw hro
noncomputable abbrev slices_Equal_api_Term_api_Term.JD (n : Nat) : Jn (AEnd × H) := slices_Equal_api_Term_api_Term.J D n
theorem slices_Equal_api_Term_api_Term.fx (n : Nat) : slices_Equal_api_Term_api_Term.F D n (slices_Equal_api_Term_api_Term.JD n) := realJ_fix
theorem slices_Equal_api_Term_api_Term.den (n : Nat) {x0 x1 : AV} {h h' : H} {v : AV} (hp : pureL [x0, x1] = true) (he : slices_Equal_api_Term_api_Term.f (slices_Equal_api_Term_api_Term.JD n) x0 x1 [] = some (.ret v, h')) (hw : v.pure = true) (hro : retOk Try.f26 (.ret v) = true) : D 26 [x0, x1] h = some (.ret v, h) :=
  den_val0 (by kernel_rfl) Try.func26 (c := slices_Equal_api_Term_api_Term.c) (by kernel_rfl) (by kernel_rfl) (by kernel_rfl) n hp (by rw [show (pol.ann 26).1 = slices_Equal_api_Term_api_Term.A by kernel_rfl, show (pol.ann 26).2 = slices_Equal_api_Term_api_Term.an by kernel_rfl, body_real _ _ (by kernel_rfl)]; exact he) hw hro
noncomputable abbrev ask_compares.JD (n : Nat) : Jn (AEnd × H) := ask_compares.J D n
theorem ask_compares.fx (n : Nat) : ask_compares.F D n (ask_compares.JD n) := realJ_fix
theorem ask_compares.den (n : Nat) {x0 : AV} {h h' : H} {v : AV} (hp : pureL [x0] = true) (he : ask_compares.f (ask_compares.JD n) x0 [] = some (.ret v, h')) (hw : v.pure = true) (hro : retOk Try.f27 (.ret v) = true) : D 27 [x0] h = some (.ret v, h) :=
  den_val0 (by kernel_rfl) Try.func27 (c := ask_compares.c) (by kernel_rfl) (by kernel_rfl) (by kernel_rfl) n hp (by rw [show (pol.ann 27).1 = ask_compares.A by kernel_rfl, show (pol.ann 27).2 = ask_compares.an by kernel_rfl, body_real _ _ (by kernel_rfl)]; exact he) hw hro
noncomputable abbrev warrantorref32_Cmp.JD (n : Nat) : Jn (AEnd × H) := warrantorref32_Cmp.J D n
theorem warrantorref32_Cmp.fx (n : Nat) : warrantorref32_Cmp.F D n (warrantorref32_Cmp.JD n) := realJ_fix
theorem warrantorref32_Cmp.den (n : Nat) {x0 : AV} {h h' : H} {v : AV} (hp : pureL [x0] = true) (he : warrantorref32_Cmp.f (warrantorref32_Cmp.JD n) x0 [] = some (.ret v, h')) (hw : v.pure = true) (hro : retOk Try.f28 (.ret v) = true) : D 28 [x0] h = some (.ret v, h) :=
  den_val0 (by kernel_rfl) Try.func28 (c := warrantorref32_Cmp.c) (by kernel_rfl) (by kernel_rfl) (by kernel_rfl) n hp (by rw [show (pol.ann 28).1 = warrantorref32_Cmp.A by kernel_rfl, show (pol.ann 28).2 = warrantorref32_Cmp.an by kernel_rfl, body_real _ _ (by kernel_rfl)]; exact he) hw hro
noncomputable abbrev warrantorref32_plain.JD (n : Nat) : Jn (AEnd × H) := warrantorref32_plain.J D n
theorem warrantorref32_plain.fx (n : Nat) : warrantorref32_plain.F D n (warrantorref32_plain.JD n) := realJ_fix
theorem warrantorref32_plain.den (n : Nat) {x0 : AV} {h h' : H} {v : AV} (hp : pureL [x0] = true) (he : warrantorref32_plain.f (warrantorref32_plain.JD n) x0 [] = some (.ret v, h')) (hw : v.pure = true) (hro : retOk Try.f29 (.ret v) = true) : D 29 [x0] h = some (.ret v, h) :=
  den_val0 (by kernel_rfl) Try.func29 (c := warrantorref32_plain.c) (by kernel_rfl) (by kernel_rfl) (by kernel_rfl) n hp (by rw [show (pol.ann 29).1 = warrantorref32_plain.A by kernel_rfl, show (pol.ann 29).2 = warrantorref32_plain.an by kernel_rfl, body_real _ _ (by kernel_rfl)]; exact he) hw hro
noncomputable abbrev slices_Concat_api_Term_api_Term.JD (n : Nat) : Jn (AEnd × H) := slices_Concat_api_Term_api_Term.J D n
theorem slices_Concat_api_Term_api_Term.fx (n : Nat) : slices_Concat_api_Term_api_Term.F D n (slices_Concat_api_Term_api_Term.JD n) := realJ_fix
theorem slices_Concat_api_Term_api_Term.den (n : Nat) {x0 : AV} {h h' : H} {v : AV} (hp : pureL [x0] = true) (he : slices_Concat_api_Term_api_Term.f (slices_Concat_api_Term_api_Term.JD n) x0 [] = some (.ret v, h')) (hw : v.pure = true) (hro : retOk Try.f30 (.ret v) = true) : D 30 [x0] h = some (.ret v, h) :=
  den_val0 (by kernel_rfl) Try.func30 (c := slices_Concat_api_Term_api_Term.c) (by kernel_rfl) (by kernel_rfl) (by kernel_rfl) n hp (by rw [show (pol.ann 30).1 = slices_Concat_api_Term_api_Term.A by kernel_rfl, show (pol.ann 30).2 = slices_Concat_api_Term_api_Term.an by kernel_rfl, body_real _ _ (by kernel_rfl)]; exact he) hw hro
noncomputable abbrev ask_shapes.JD (n : Nat) : Jn (AEnd × H) := ask_shapes.J D n
theorem ask_shapes.fx (n : Nat) : ask_shapes.F D n (ask_shapes.JD n) := realJ_fix
theorem ask_shapes.den (n : Nat) {h h' : H} {v : AV} (hp : pureL [] = true) (he : ask_shapes.f (ask_shapes.JD n)  [] = some (.ret v, h')) (hw : v.pure = true) (hro : retOk Try.f31 (.ret v) = true) : D 31 [] h = some (.ret v, h) :=
  den_val0 (by kernel_rfl) Try.func31 (c := ask_shapes.c) (by kernel_rfl) (by kernel_rfl) (by kernel_rfl) n hp (by rw [show (pol.ann 31).1 = ask_shapes.A by kernel_rfl, show (pol.ann 31).2 = ask_shapes.an by kernel_rfl, body_real _ _ (by kernel_rfl)]; exact he) hw hro
noncomputable abbrev strings_IndexByte.JD (n : Nat) : Jn (AEnd × H) := strings_IndexByte.J D n
theorem strings_IndexByte.fx (n : Nat) : strings_IndexByte.F D n (strings_IndexByte.JD n) := realJ_fix
theorem strings_IndexByte.den (n : Nat) {x0 x1 : AV} {h h' : H} {v : AV} (hp : pureL [x0, x1] = true) (he : strings_IndexByte.f (strings_IndexByte.JD n) x0 x1 [] = some (.ret v, h')) (hw : v.pure = true) (hro : retOk Try.f32 (.ret v) = true) : D 32 [x0, x1] h = some (.ret v, h) :=
  den_val0 (by kernel_rfl) Try.func32 (c := strings_IndexByte.c) (by kernel_rfl) (by kernel_rfl) (by kernel_rfl) n hp (by rw [show (pol.ann 32).1 = strings_IndexByte.A by kernel_rfl, show (pol.ann 32).2 = strings_IndexByte.an by kernel_rfl, body_real _ _ (by kernel_rfl)]; exact he) hw hro
noncomputable abbrev warrantorref32_text.JD (n : Nat) : Jn (AEnd × H) := warrantorref32_text.J D n
theorem warrantorref32_text.fx (n : Nat) : warrantorref32_text.F D n (warrantorref32_text.JD n) := realJ_fix
theorem warrantorref32_text.den (n : Nat) {x0 : AV} {h h' : H} {v : AV} (hp : pureL [x0] = true) (he : warrantorref32_text.f (warrantorref32_text.JD n) x0 [] = some (.ret v, h')) (hw : v.pure = true) (hro : retOk Try.f33 (.ret v) = true) : D 33 [x0] h = some (.ret v, h) :=
  den_val0 (by kernel_rfl) Try.func33 (c := warrantorref32_text.c) (by kernel_rfl) (by kernel_rfl) (by kernel_rfl) n hp (by rw [show (pol.ann 33).1 = warrantorref32_text.A by kernel_rfl, show (pol.ann 33).2 = warrantorref32_text.an by kernel_rfl, body_real _ _ (by kernel_rfl)]; exact he) hw hro
noncomputable abbrev warrantorref19_Parse.JD (n : Nat) : Jn (AEnd × H) := warrantorref19_Parse.J D n
theorem warrantorref19_Parse.fx (n : Nat) : warrantorref19_Parse.F D n (warrantorref19_Parse.JD n) := realJ_fix
theorem warrantorref19_Parse.den (n : Nat) {x0 : AV} {h h' : H} {v : AV} (hp : pureL [x0] = true) (he : warrantorref19_Parse.f (warrantorref19_Parse.JD n) x0 [] = some (.ret v, h')) (hw : v.pure = true) (hro : retOk Try.f34 (.ret v) = true) : D 34 [x0] h = some (.ret v, h) :=
  den_val0 (by kernel_rfl) Try.func34 (c := warrantorref19_Parse.c) (by kernel_rfl) (by kernel_rfl) (by kernel_rfl) n hp (by rw [show (pol.ann 34).1 = warrantorref19_Parse.A by kernel_rfl, show (pol.ann 34).2 = warrantorref19_Parse.an by kernel_rfl, body_real _ _ (by kernel_rfl)]; exact he) hw hro
noncomputable abbrev ask_plain.JD (n : Nat) : Jn (AEnd × H) := ask_plain.J D n
theorem ask_plain.fx (n : Nat) : ask_plain.F D n (ask_plain.JD n) := realJ_fix
theorem ask_plain.den (n : Nat) {x0 : AV} {h h' : H} {v : AV} (hp : pureL [x0] = true) (he : ask_plain.f (ask_plain.JD n) x0 [] = some (.ret v, h')) (hw : v.pure = true) (hro : retOk Try.f36 (.ret v) = true) : D 36 [x0] h = some (.ret v, h) :=
  den_val0 (by kernel_rfl) Try.func36 (c := ask_plain.c) (by kernel_rfl) (by kernel_rfl) (by kernel_rfl) n hp (by rw [show (pol.ann 36).1 = ask_plain.A by kernel_rfl, show (pol.ann 36).2 = ask_plain.an by kernel_rfl, body_real _ _ (by kernel_rfl)]; exact he) hw hro
noncomputable abbrev ask_none.JD (n : Nat) : Jn (AEnd × H) := ask_none.J D n
theorem ask_none.fx (n : Nat) : ask_none.F D n (ask_none.JD n) := realJ_fix
theorem ask_none.den (n : Nat) {x0 : AV} {h h' : H} {v : AV} (hp : pureL [x0] = true) (he : ask_none.f (ask_none.JD n) x0 [] = some (.ret v, h')) (hw : v.pure = true) (hro : retOk Try.f37 (.ret v) = true) : D 37 [x0] h = some (.ret v, h) :=
  den_val0 (by kernel_rfl) Try.func37 (c := ask_none.c) (by kernel_rfl) (by kernel_rfl) (by kernel_rfl) n hp (by rw [show (pol.ann 37).1 = ask_none.A by kernel_rfl, show (pol.ann 37).2 = ask_none.an by kernel_rfl, body_real _ _ (by kernel_rfl)]; exact he) hw hro
noncomputable abbrev ask_sum.JD (n : Nat) : Jn (AEnd × H) := ask_sum.J D n
theorem ask_sum.fx (n : Nat) : ask_sum.F D n (ask_sum.JD n) := realJ_fix
theorem ask_sum.den (n : Nat) {x0 : AV} {h h' : H} {v : AV} (hp : pureL [x0] = true) (he : ask_sum.f (ask_sum.JD n) x0 [] = some (.ret v, h')) (hw : v.pure = true) (hro : retOk Try.f38 (.ret v) = true) : D 38 [x0] h = some (.ret v, h) :=
  den_val0 (by kernel_rfl) Try.func38 (c := ask_sum.c) (by kernel_rfl) (by kernel_rfl) (by kernel_rfl) n hp (by rw [show (pol.ann 38).1 = ask_sum.A by kernel_rfl, show (pol.ann 38).2 = ask_sum.an by kernel_rfl, body_real _ _ (by kernel_rfl)]; exact he) hw hro
noncomputable abbrev stringslite_IndexByte.JD (n : Nat) : Jn (AEnd × H) := stringslite_IndexByte.J D n
theorem stringslite_IndexByte.fx (n : Nat) : stringslite_IndexByte.F D n (stringslite_IndexByte.JD n) := realJ_fix
theorem stringslite_IndexByte.den (n : Nat) {x0 x1 : AV} {h h' : H} {v : AV} (hp : pureL [x0, x1] = true) (he : stringslite_IndexByte.f (stringslite_IndexByte.JD n) x0 x1 [] = some (.ret v, h')) (hw : v.pure = true) (hro : retOk Try.f39 (.ret v) = true) : D 39 [x0, x1] h = some (.ret v, h) :=
  den_val0 (by kernel_rfl) Try.func39 (c := stringslite_IndexByte.c) (by kernel_rfl) (by kernel_rfl) (by kernel_rfl) n hp (by rw [show (pol.ann 39).1 = stringslite_IndexByte.A by kernel_rfl, show (pol.ann 39).2 = stringslite_IndexByte.an by kernel_rfl, body_real _ _ (by kernel_rfl)]; exact he) hw hro
noncomputable abbrev warrantorref17_Expr.JD (n : Nat) : Jn (AEnd × H) := warrantorref17_Expr.J D n
theorem warrantorref17_Expr.fx (n : Nat) : warrantorref17_Expr.F D n (warrantorref17_Expr.JD n) := realJ_fix
theorem warrantorref17_Expr.den (n : Nat) {x0 : AV} {h h' : H} {v : AV} (hp : pureL [x0] = true) (he : warrantorref17_Expr.f (warrantorref17_Expr.JD n) x0 [] = some (.ret v, h')) (hw : v.pure = true) (hro : retOk Try.f40 (.ret v) = true) : D 40 [x0] h = some (.ret v, h) :=
  den_val0 (by kernel_rfl) Try.func40 (c := warrantorref17_Expr.c) (by kernel_rfl) (by kernel_rfl) (by kernel_rfl) n hp (by rw [show (pol.ann 40).1 = warrantorref17_Expr.A by kernel_rfl, show (pol.ann 40).2 = warrantorref17_Expr.an by kernel_rfl, body_real _ _ (by kernel_rfl)]; exact he) hw hro
noncomputable abbrev ask_plain_c1.JD (n : Nat) : Jn (AEnd × H) := ask_plain_c1.J D n
theorem ask_plain_c1.fx (n : Nat) : ask_plain_c1.F D n (ask_plain_c1.JD n) := realJ_fix
theorem ask_plain_c1.den (n : Nat) {x0 : AV} {h h' : H} {v : AV} (hp : pureL [x0] = true) (he : ask_plain_c1.f (ask_plain_c1.JD n) x0 [] = some (.ret v, h')) (hw : v.pure = true) (hro : retOk Try.f41 (.ret v) = true) : D 41 [x0] h = some (.ret v, h) :=
  den_val0 (by kernel_rfl) Try.func41 (c := ask_plain_c1.c) (by kernel_rfl) (by kernel_rfl) (by kernel_rfl) n hp (by rw [show (pol.ann 41).1 = ask_plain_c1.A by kernel_rfl, show (pol.ann 41).2 = ask_plain_c1.an by kernel_rfl, body_real _ _ (by kernel_rfl)]; exact he) hw hro
noncomputable abbrev strings_ContainsFunc.JD (n : Nat) : Jn (AEnd × H) := strings_ContainsFunc.J D n
theorem strings_ContainsFunc.fx (n : Nat) : strings_ContainsFunc.F D n (strings_ContainsFunc.JD n) := realJ_fix
theorem strings_ContainsFunc.den (n : Nat) {x0 x1 : AV} {h h' : H} {v : AV} (hp : pureL [x0, x1] = true) (he : strings_ContainsFunc.f (strings_ContainsFunc.JD n) x0 x1 [] = some (.ret v, h')) (hw : v.pure = true) (hro : retOk Try.f42 (.ret v) = true) : D 42 [x0, x1] h = some (.ret v, h) :=
  den_val0 (by kernel_rfl) Try.func42 (c := strings_ContainsFunc.c) (by kernel_rfl) (by kernel_rfl) (by kernel_rfl) n hp (by rw [show (pol.ann 42).1 = strings_ContainsFunc.A by kernel_rfl, show (pol.ann 42).2 = strings_ContainsFunc.an by kernel_rfl, body_real _ _ (by kernel_rfl)]; exact he) hw hro
noncomputable abbrev fnv_Parse.JD (n : Nat) : Jn (AEnd × H) := fnv_Parse.J D n
theorem fnv_Parse.fx (n : Nat) : fnv_Parse.F D n (fnv_Parse.JD n) := realJ_fix
theorem fnv_Parse.den (n : Nat) {x0 : AV} {h h' : H} {v : AV} (hp : pureL [x0] = true) (he : fnv_Parse.f (fnv_Parse.JD n) x0 [] = some (.ret v, h')) (hw : v.pure = true) (hro : retOk Try.f43 (.ret v) = true) : D 43 [x0] h = some (.ret v, h) :=
  den_val0 (by kernel_rfl) Try.func43 (c := fnv_Parse.c) (by kernel_rfl) (by kernel_rfl) (by kernel_rfl) n hp (by rw [show (pol.ann 43).1 = fnv_Parse.A by kernel_rfl, show (pol.ann 43).2 = fnv_Parse.an by kernel_rfl, body_real _ _ (by kernel_rfl)]; exact he) hw hro
noncomputable abbrev strings_IndexFunc.JD (n : Nat) : Jn (AEnd × H) := strings_IndexFunc.J D n
theorem strings_IndexFunc.fx (n : Nat) : strings_IndexFunc.F D n (strings_IndexFunc.JD n) := realJ_fix
theorem strings_IndexFunc.den (n : Nat) {x0 x1 : AV} {h h' : H} {v : AV} (hp : pureL [x0, x1] = true) (he : strings_IndexFunc.f (strings_IndexFunc.JD n) x0 x1 [] = some (.ret v, h')) (hw : v.pure = true) (hro : retOk Try.f45 (.ret v) = true) : D 45 [x0, x1] h = some (.ret v, h) :=
  den_val0 (by kernel_rfl) Try.func45 (c := strings_IndexFunc.c) (by kernel_rfl) (by kernel_rfl) (by kernel_rfl) n hp (by rw [show (pol.ann 45).1 = strings_IndexFunc.A by kernel_rfl, show (pol.ann 45).2 = strings_IndexFunc.an by kernel_rfl, body_real _ _ (by kernel_rfl)]; exact he) hw hro
noncomputable abbrev strings_indexFunc.JD (n : Nat) : Jn (AEnd × H) := strings_indexFunc.J D n
theorem strings_indexFunc.fx (n : Nat) : strings_indexFunc.F D n (strings_indexFunc.JD n) := realJ_fix
theorem strings_indexFunc.den (n : Nat) {x0 x1 x2 : AV} {h h' : H} {v : AV} (hp : pureL [x0, x1, x2] = true) (he : strings_indexFunc.f (strings_indexFunc.JD n) x0 x1 x2 [] = some (.ret v, h')) (hw : v.pure = true) (hro : retOk Try.f46 (.ret v) = true) : D 46 [x0, x1, x2] h = some (.ret v, h) :=
  den_val0 (by kernel_rfl) Try.func46 (c := strings_indexFunc.c) (by kernel_rfl) (by kernel_rfl) (by kernel_rfl) n hp (by rw [show (pol.ann 46).1 = strings_indexFunc.A by kernel_rfl, show (pol.ann 46).2 = strings_indexFunc.an by kernel_rfl, body_real _ _ (by kernel_rfl)]; exact he) hw hro
end Go.Proofs.Ytigkhjmlomogmaa
