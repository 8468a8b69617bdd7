/- What the functions of the records' layer come to: 23: what is none's is told. -/
import Derived.Test.YtdlnkfghgbddhaaGreatPJS22
set_option linter.all false

open Go Go.Ve Go.Proofs
namespace Go.Proofs.YtdlnkfghgbddhaaGreat
set_option maxRecDepth 100000
set_option linter.all false

theorem den_pan0 {P : Program} {pol : Pol} {f : FuncId} {fn : Func} {c : Code} {args : List AV} {v : AV} {h h' : H} (hx : pol.ext f = none) (hf : P.funcs[f]? = some fn) (hb : fn.body = some c) (hm : pol.mode f = 0) (hok : (resOk fn && Nat.ble args.length fn.ntmps && (pol.ann f).1.q.all pol.still) = true) (n : Nat) (hp : pureL args = true)
    (he : body P (pol.ann f).1 (den P pol) fn (pol.ann f).2 n c args [] = some (.pan v, h')) (hw : v.pure = true) (hro : retOk fn (.pan v) = true) : den P pol f args h = some (.pan v, h) := by
  refine den_pure hx hf hb hm hok n ?_
  unfold retChk pureCall
  rw [mapM_pure hp]
  simp only [hp, if_true, he]
  rw [freeze_pure hw]
  simp only [Option.bind_some, hw, Bool.true_or, Bool.and_true, if_true, hro]
abbrev brkR : AV := .iface t_rec_broken (.agg [])
theorem must_den (b : Bool) (h : H) : D n_rec_must [.bool b] h = some (if b then .ret (.tuple []) else .pan brkR, h) := by
  cases b with
  | true =>
    refine rec_must.den 1 rfl (h' := []) ?_ rfl rfl
    rw [rec_must.f_eq (rec_must.fx 1)]
    rfl
  | false =>
    refine den_pan0 (fn := Tryz.f149) (c := rec_must.c) (h' := []) (by kernel_rfl) Tryz.func149 (by kernel_rfl) (by kernel_rfl) (by kernel_rfl) 1 rfl ?_ rfl rfl
    rw [show (pol.ann n_rec_must).1 = rec_must.A by kernel_rfl, show (pol.ann n_rec_must).2 = rec_must.an by kernel_rfl, body_real _ _ (by kernel_rfl)]
    have : rec_must.f (rec_must.JD 1) (.bool false) [] = some (.pan brkR, []) := by
      rw [rec_must.f_eq (rec_must.fx 1)]
      rfl
    exact this
end Go.Proofs.YtdlnkfghgbddhaaGreat
