/- VE: the operations that only read: what the machine does is what the evaluator says. -/
import Derived.Test.YtdlnkfghgbddhaaGreatVa0
import Derived.Laws.Strings
import Derived.Laws.Strings2
import Derived.Laws.IdiomStrings
import Derived.MapKept
import Derived.Laws.StructEq
import Derived.ArgAppend
set_option linter.all false

namespace Go.Ve
open Go

section
variable {P : Program}

theorem info_of_und {t : TypeId} {d : TypeDesc} (h : P.underlying t = some d) : ∃ i, P.info? t = some i := by
  unfold Program.underlying at h
  cases hi : P.info? t with
  | none => simp [hi] at h
  | some i => exact ⟨i, rfl⟩

theorem run_sizeOf' {t : TypeId} (h : (P.info? t).isSome) (w : World) : (sizeOf t).run P w = .ok (P.cellsOf t) w := by
  obtain ⟨i, hi⟩ := Option.isSome_iff_exists.1 h
  simp [sizeOf, typeInfo, hi, Program.cellsOf]

theorem isSome_of_und {t : TypeId} {d : TypeDesc} (h : P.underlying t = some d) : (P.info? t).isSome := by
  obtain ⟨i, hi⟩ := info_of_und h; simp [hi]

theorem agg_und {t : TypeId} (h : isAgg P t = true) : ∃ d, P.underlying t = some d ∧ (∀ w, (Go.isAgg t).run P w = .ok true w) := by
  unfold isAgg at h
  cases hu : P.underlying t with
  | none => simp [hu] at h
  | some d =>
    refine ⟨d, rfl, fun w => ?_⟩
    cases d <;> simp [hu] at h <;> simp [Go.isAgg, run_underlying hu]
theorem cell_und {t : TypeId} (h : isCell P t = true) : ∃ d, P.underlying t = some d ∧ (∀ w, (Go.isAgg t).run P w = .ok false w) := by
  unfold isCell at h
  cases hu : P.underlying t with
  | none => simp [hu] at h
  | some d =>
    refine ⟨d, rfl, fun w => ?_⟩
    cases d <;> simp [hu] at h <;> simp [Go.isAgg, run_underlying hu]

/-- The objects of the heap, as they lie in memory. -/
inductive ObjRep (w : World) (g : Gh) (id : Nat) : AObj → Prop
  | arr {cells : List AV} {ro : Bool} {b : Nat} {cs : Array Value} {ty : TypeId} {fr : Nat × Nat} : g.own b = some (.obj id) → w.heap[b]? = some (.cells cs ty fr) → cs.size = cells.length →
      (∀ (j : Nat) c v, cells[j]? = some c → cs[j]? = some v → c.one = true ∧ Rep w g (fun _ _ => some (.cell id j)) c v) →
      (ro = false → (∀ k, ¬ g.st b k) ∧ ∀ k, k < cs.size → w.frozen? ⟨b, k, none⟩ = false) → ObjRep w g id (.arr cells ro)
  | map {es : List (AV × AV)} {b : Nat} {ms : Array MapEntry} {clock : Nat} : g.own b = some (.obj id) → w.heap[b]? = some (.map ms clock) → ms.size = es.length → (∀ k, ¬ g.st b k) →
      (∀ (j : Nat) e m, es[j]? = some e → ms[j]? = some m → Rep w g wh0 e.1 m.key ∧ Rep w g wh0 e.2 m.val) → ObjRep w g id (.map es)
  | siter {s : List UInt8} {pos b : Nat} : g.own b = some (.obj id) → w.heap[b]? = some (.stringIter ⟨s.toArray⟩ pos) → (∀ k, ¬ g.st b k) → ObjRep w g id (.siter s pos)

structure HR (w : World) (g : Gh) (h : H) : Prop where
  obj : ∀ (id : Nat) o, h[id]? = some o → (∃ b, g.own b = some (.obj id)) → ObjRep w g id o
  inj : ∀ b b' id, g.own b = some (.obj id) → g.own b' = some (.obj id) → b = b'
  lt : ∀ b l, g.own b = some l → b < w.heap.size
  bd : ∀ b id, g.own b = some (.obj id) → id < h.length
  stlt : ∀ b k, g.st b k → b < w.heap.size
  rsv : ∀ b id, g.own b = some (.obj id) → ¬ g.rsv id
  rlt : ∀ id, g.rsv id → id < h.length

theorem one_rep {w : World} {g : Gh} {wh : Wh} {c : AV} {v : Value} (h : Rep w g wh c v) (h1 : c.one = true) : v.oneCell' = true := by
  cases h <;> first | rfl | (simp [AV.one] at h1)
theorem one_cells {w : World} {g : Gh} {wh : Wh} {c : AV} {v : Value} (h : Rep w g wh c v) (h1 : c.one = true) : c.cells = [c] ∧ v.cells = #[v] := by
  cases h <;> first | exact ⟨rfl, rfl⟩ | (simp [AV.one] at h1)

theorem Rep.relabel {w : World} {g : Gh} {wh wh' : Wh} {x : AV} {v : Value} (h : Rep w g wh x v) (h1one : x.one = true) (he : wh' 0 0 = wh 0 0) : Rep w g wh' x v := by
  cases h with
  | list b off s f hn hc ha hs h1 h2 hr => exact .list b off s f hn hc ha hs h1 h2 (he ▸ hr)
  | undef => exact .undef
  | bool => exact .bool
  | int => exact .int
  | str => exact .str
  | nilPtr => exact .nilPtr
  | ptr ho => exact .ptr ho
  | rptr f h1 h2 => exact .rptr f h1 h2
  | slc hl h => exact .slc hl h
  | nilMap => exact .nilMap
  | map ho => exact .map ho
  | nilFunc => exact .nilFunc
  | func h1 h2 i1 i2 => exact .func h1 h2 i1 i2
  | nilIface => exact .nilIface
  | iface h => exact .iface h
  | agg => simp [AV.one] at h1one
  | tuple => simp [AV.one] at h1one

/-- A value's cells stand for a value's cells. -/
theorem Rep.cells {w : World} {g : Gh} {wh : Wh} {x : AV} {v : Value} (h : Rep w g wh x v) (h1 : x.cells.all AV.one = true) :
    v.cells.size = x.cells.length ∧ ∀ (j : Nat) c u, x.cells[j]? = some c → v.cells[j]? = some u → c.one = true ∧ Rep w g (fun _ _ => wh 0 j) c u := by
  have key : x.one = true → v.cells.size = x.cells.length ∧ ∀ (j : Nat) c u, x.cells[j]? = some c → v.cells[j]? = some u → c.one = true ∧ Rep w g (fun _ _ => wh 0 j) c u := by
    intro ho
    obtain ⟨e1, e2⟩ := one_cells h ho
    rw [e1, e2]
    refine ⟨rfl, fun j c u hj hu => ?_⟩
    cases j with
    | zero =>
      simp at hj hu
      subst hj hu
      refine ⟨ho, ?_⟩
      exact h.relabel ho rfl
    | succ j => simp at hj
  cases x with
  | agg cs =>
    cases h with
    | agg hs hc =>
      refine ⟨hs, fun j c u hj hu => ⟨?_, hc j c u hj hu⟩⟩
      exact List.all_eq_true.1 h1 c (List.mem_of_getElem? hj)
  | undef => simp [AV.cells, AV.one] at h1
  | tuple => simp [AV.cells, AV.one] at h1
  | _ => exact key rfl

theorem cellsAt_sound {w : World} {g : Gh} {h : H} (hH : HR w g h) {wh : Wh} {a : AV} {v : Value} (hr : Rep w g wh a v) {cells : List AV} {off : Nat} (he : cellsAt h a = some (cells, off)) :
    ∃ b base, v = .pointer (some ⟨b, base + off, none⟩) ∧ ∀ (j : Nat) c, cells[j]? = some c → c.one = true ∧ ∃ x, w.cell? ⟨b, base + j, none⟩ = some x ∧ Rep w g wh0 c x := by
  cases hr <;> simp [cellsAt] at he
  case ptr id o b ho =>
    split at he
    · rename_i cs ro hid
      simp at he
      obtain ⟨rfl, rfl⟩ := he
      have hob := hH.obj id _ hid ⟨_, ho⟩
      cases hob with
      | @arr _ _ b' vs ty fr ho' hb hs hc hro =>
        obtain rfl := hH.inj _ _ _ ho ho'
        refine ⟨b, 0, by simp, fun j c hj => ?_⟩
        have hj' : j < vs.size := by rw [hs]; exact (List.getElem?_eq_some_iff.1 hj).1
        obtain ⟨h1, h2⟩ := hc j c vs[j] hj (by simp [hj'])
        exact ⟨h1, vs[j], by simp [World.cell?, hb, hj'], h2.weak⟩
    · simp at he
  case rptr cs o b base f h1 h2 =>
    obtain ⟨rfl, rfl⟩ := he
    exact ⟨b, base, rfl, fun j c hj => ⟨(h1 j c hj).1, f j, (h1 j c hj).2.2, h2 j c hj⟩⟩

theorem ldCell_sound {w : World} {g : Gh} {h : H} (hH : HR w g h) {wh : Wh} {a : AV} {v : Value} (hr : Rep w g wh a v) {r : AV} (he : ldCell h a = some r) {t : TypeId} (ht : isCell P t = true) :
    ∃ x, (Instr.loadAt t v).run P w = .ok x w ∧ Rep w g wh0 r x ∧ r.one = true := by
  simp only [ldCell, Option.bind_eq_some_iff, cellAt] at he
  obtain ⟨⟨cells, off⟩, h1, h2⟩ := he
  obtain ⟨b, base, rfl, hc⟩ := cellsAt_sound hH hr h1
  obtain ⟨ho, x, hx, hrx⟩ := hc off r h2
  obtain ⟨d, _, hag⟩ := cell_und ht
  exact ⟨x, by simp [Instr.loadAt, Instr.sureAddr, loadVar, hag, hx], hrx, ho⟩

theorem aggAt_get {n : Nat} {cells : List AV} {off : Nat} {r : AV} (he : aggAt n cells off = some r) :
    ∃ cs, r = .agg cs ∧ cs.length = n ∧ ∀ (j : Nat) c, cs[j]? = some c → cells[off + j]? = some c := by
  unfold aggAt at he
  split at he
  · rename_i hl
    simp at he
    subst he
    refine ⟨_, rfl, by simp; omega, fun j c hj => ?_⟩
    rw [List.getElem?_take] at hj
    split at hj
    · rwa [List.getElem?_drop] at hj
    · simp at hj
  · simp at he

theorem ldAgg_sound {w : World} {g : Gh} {h : H} (hH : HR w g h) {wh : Wh} {a : AV} {v : Value} (hr : Rep w g wh a v) {r : AV} {t : TypeId} (he : ldAgg (P.cellsOf t) h a = some r) (ht : isAgg P t = true) :
    ∃ x, (Instr.loadAt t v).run P w = .ok x w ∧ Rep w g wh0 r x := by
  simp only [ldAgg, Option.bind_eq_some_iff] at he
  obtain ⟨⟨cells, off⟩, h1, h2⟩ := he
  obtain ⟨b, base, rfl, hc⟩ := cellsAt_sound hH hr h1
  obtain ⟨cs, rfl, hl, hcs⟩ := aggAt_get h2
  obtain ⟨d, hd, hag⟩ := agg_und ht
  have hex : ∀ j : Nat, ∃ x, j < cs.length → w.cell? ⟨b, base + off + j, none⟩ = some x ∧ ∀ c, cs[j]? = some c → Rep w g wh0 c x := by
    intro j
    by_cases hj : j < cs.length
    · obtain ⟨_, x, hx, hrx⟩ := hc (off + j) cs[j] (hcs j _ (by simp [hj]))
      exact ⟨x, fun _ => ⟨by rw [Nat.add_assoc]; exact hx, fun c hc => by simp [hj] at hc; subst hc; exact hrx⟩⟩
    · exact ⟨undef, fun h => absurd h hj⟩
  have hf := fun j => Classical.choose_spec (hex j)
  generalize hg : (fun j => Classical.choose (hex j)) = f at hf
  have hf' : ∀ j, j < cs.length → w.cell? ⟨b, base + off + j, none⟩ = some (f j) ∧ ∀ c, cs[j]? = some c → Rep w g wh0 c (f j) := by
    intro j hj; have := hf j hj; rw [← hg]; exact this
  have hrun := run_loadCells (P := P) w ⟨b, base + off, none⟩ (P.cellsOf t) f (fun j hj => by
    rw [Addr.add_lit]; exact (hf' j (by omega)).1)
  refine ⟨.agg ((List.range (P.cellsOf t)).map f).toArray, ?_, ?_⟩
  · simp [Instr.loadAt, Instr.sureAddr, loadVar, hag, run_sizeOf' (isSome_of_und hd), hrun]
  · refine .agg (by simp; omega) fun j c u hj hu => ?_
    have hjl := (List.getElem?_eq_some_iff.1 hj).1
    simp [List.getElem?_map, List.getElem?_range (show j < P.cellsOf t by omega)] at hu
    subst hu
    exact (hf' j hjl).2 c hj

theorem load_sound {w : World} {g : Gh} {h : H} (hH : HR w g h) {wh : Wh} {a : AV} {v : Value} (hr : Rep w g wh a v) {r : AV} {t : TypeId} (he : load P t h a = some r) :
    ∃ x, (Instr.loadAt t v).run P w = .ok x w ∧ Rep w g wh0 r x := by
  unfold load at he
  split at he
  · exact ldAgg_sound hH hr he (by assumption)
  · split at he
    · obtain ⟨x, h1, h2, _⟩ := ldCell_sound (P := P) hH hr he (by assumption); exact ⟨x, h1, h2⟩
    · simp at he

theorem fieldOf_und {t : TypeId} {i : Nat} {f : Field} (h : fieldOf P t i = some f) : ∃ fs, P.underlying t = some (.struct fs) ∧ fs[i]? = some f := by
  unfold fieldOf at h
  split at h
  · rename_i fs hu; exact ⟨fs, hu, h⟩
  · simp at h

theorem part_run {t : TypeId} (cs : Array Value) (off : Nat) (w : World) :
    (isCell P t = true → ∀ v, cs[off]? = some v → (Go.part t cs off).run P w = .ok v w) ∧
    (isAgg P t = true → (Go.part t cs off).run P w = .ok (.agg (cs.extract off (off + P.cellsOf t))) w) := by
  constructor
  · intro h v hv
    obtain ⟨d, _, hag⟩ := cell_und h
    simp [Go.part, hag, hv]
  · intro h
    obtain ⟨d, hd, hag⟩ := agg_und h
    simp [Go.part, hag, run_sizeOf' (isSome_of_und hd)]

theorem Rep.agg_inv {w : World} {g : Gh} {wh : Wh} {cells : List AV} {v : Value} (h : Rep w g wh (.agg cells) v) :
    ∃ vs : Array Value, v = .agg vs ∧ vs.size = cells.length ∧ ∀ (j : Nat) c u, cells[j]? = some c → vs[j]? = some u → Rep w g (fun _ _ => wh 0 j) c u := by
  cases h with | agg h1 h2 => exact ⟨_, rfl, h1, h2⟩

theorem extract_rep {w : World} {g : Gh} {cells : List AV} {vs : Array Value} (hs : vs.size = cells.length) (hc : ∀ (j : Nat) c u, cells[j]? = some c → vs[j]? = some u → Rep w g wh0 c u)
    {n off : Nat} {cs : List AV} (hl : cs.length = n) (hcs : ∀ (j : Nat) c, cs[j]? = some c → cells[off + j]? = some c) (hle : n = 0 ∨ off + n ≤ cells.length) : Rep w g wh0 (.agg cs) (.agg (vs.extract off (off + n))) := by
  refine .agg (by simp; omega) fun j c u hj hu => ?_
  have hj' := hcs j c hj
  rw [Array.getElem?_extract] at hu
  split at hu
  · exact (hc (off + j) c u hj' hu)
  · simp at hu

theorem field_sound {w : World} {g : Gh} {wh : Wh} {x : AV} {v : Value} (hr : Rep w g wh x v) {t : TypeId} {i : Nat} {r : AV} (he : field P t x i = some r) :
    ∃ u, (Instr.field t v i).run P w = .ok u w ∧ Rep w g wh0 r u := by
  unfold field at he
  split at he
  · rename_i f hf
    obtain ⟨fs, hu, hfi⟩ := fieldOf_und hf
    have hrun : ∀ vs : Array Value, (Instr.field t (.agg vs) i).run P w = (Go.part f.type vs f.offset).run P w := by
      intro vs; simp [Instr.field, run_underlying hu, hfi, asAgg]
    split at he
    · rename_i ha
      cases x <;> simp [fAgg] at he
      rename_i cells
      obtain ⟨vs, rfl, hs, hc⟩ := hr.agg_inv
      obtain ⟨cs, rfl, hl, hcs⟩ := aggAt_get he
      refine ⟨_, (hrun vs).trans ((part_run vs f.offset w).2 ha), ?_⟩
      refine extract_rep hs (fun j c u h1 h2 => (hc j c u h1 h2).weak) hl hcs ?_
      unfold aggAt at he
      split at he
      · exact .inr (by assumption)
      · simp at he
    · split at he
      · rename_i hce
        cases x <;> simp [fCell] at he
        rename_i cells
        obtain ⟨vs, rfl, hs, hc⟩ := hr.agg_inv
        have hlt : f.offset < vs.size := by rw [hs]; exact (List.getElem?_eq_some_iff.1 he).1
        exact ⟨vs[f.offset], (hrun vs).trans ((part_run vs f.offset w).1 hce _ (by simp [hlt])), (hc _ _ _ he (by simp [hlt])).weak⟩
      · simp at he
  · simp at he

theorem fAddr_sound {w : World} {g : Gh} {wh wh' : Wh} {x : AV} {v : Value} (hr : Rep w g wh x v) {off : Nat} {r : AV} (he : fAddr off x = some r) :
    ∃ b o, v = .pointer (some ⟨b, o, none⟩) ∧ Rep w g wh' r (.pointer (some ⟨b, o + off, none⟩)) := by
  cases hr <;> simp [fAddr] at he
  case ptr id o b ho => subst he; exact ⟨b, o, rfl, .ptr ho⟩
  case rptr cs o b base f h1 h2 => subst he; exact ⟨b, base + o, rfl, by rw [Nat.add_assoc]; exact .rptr f h1 h2⟩

theorem fieldAddr_sound {w : World} {g : Gh} {wh : Wh} {x : AV} {v : Value} (hr : Rep w g wh x v) {t : TypeId} {i : Nat} {r : AV} (he : fieldAddr P t x i = some r) :
    ∃ u, (Instr.fieldAt t v i).run P w = .ok u w ∧ Rep w g wh0 r u := by
  unfold fieldAddr at he
  split at he
  · simp at he
  · rename_i f hf
    split at he
    · simp at he
    · rename_i hne
      obtain ⟨fs, hu, hfi⟩ := fieldOf_und hf
      obtain ⟨b, o, rfl, hr'⟩ := fAddr_sound (wh' := wh0) hr he
      rw [not_or] at hne
      have hi : (P.info? f.type).isSome := by cases h : P.info? f.type <;> simp_all
      exact ⟨_, by simp [Instr.fieldAt, run_underlying hu, hfi, Instr.sureAddr, fieldPlace, run_sizeOf' hi, hne.1, Addr.add_lit], hr'⟩

theorem natOf_some {ix : AV} {i : Nat} (h : natOf ix = some i) : ∃ k, ix = .int k (i : Int) := by
  cases ix <;> simp [natOf] at h
  rename_i k n
  obtain ⟨h1, rfl⟩ := h
  exact ⟨k, by rw [Int.toNat_of_nonneg h1]⟩

theorem indexAddr_sound {w : World} {g : Gh} {wh wi : Wh} {x ix : AV} {v vi : Value} (hr : Rep w g wh x v) (hi : Rep w g wi ix vi) {t : TypeId} {r : AV} (he : indexAddr P t x ix = some r) :
    ∃ u, (Instr.indexAt t v vi).run P w = .ok u w ∧ Rep w g wh0 r u := by
  unfold indexAddr at he
  split at he
  · rename_i e hu
    split at he
    · rename_i hie
      simp only [ixSlice, Option.bind_eq_some_iff] at he
      obtain ⟨i, hn, he⟩ := he
      obtain ⟨k, rfl⟩ := natOf_some hn
      cases hi
      have hun : (Instr.indexAt t v (.int k i)).run P w = match v with
          | .slice (some a) len _ => if i < len then .ok (.pointer (some (a.add (i * P.cellsOf e)))) w else (boundsPanic k i len .index).run P w
          | v => (Instr.indexAt t v (.int k i)).run P w := by
        split
        · rename_i a len cap
          simp [Instr.indexAt, run_underlying hu, asIntOf]
          split <;> simp [run_sizeOf' hie]
        · rfl
      cases hr <;> simp at he
      case list rows o a n c b off s f hnr hnc ha hs h1 h2 hroom =>
        split at he
        · rename_i row hrow
          simp at he
          obtain ⟨hrl, rfl⟩ := he
          have hlt := (List.getElem?_eq_some_iff.1 hrow).1
          have := ha (by rintro rfl; simp at hlt)
          subst this
          have hs' : s = P.cellsOf e := by rw [← hrl]; exact (hs row (List.mem_of_getElem? hrow)).symm
          subst hs'
          refine ⟨.pointer (some ⟨b, off + i * P.cellsOf e, none⟩), by rw [hun]; simp [Addr.add_lit]; intro h; omega, ?_⟩
          exact .rptr (off := 0) (f i) (fun j c hj => h1 i row j c hrow hj) (fun j c hj => h2 i row j c hrow hj)
        · simp at he
      case slc id off l s a c hlc hac =>
        obtain ⟨⟨hil, rfl⟩, rfl⟩ := he
        rcases hac with rfl | ⟨b, rfl, ho⟩
        · omega
        · exact ⟨.pointer (some ⟨b, off + i * P.cellsOf e, none⟩), by rw [hun]; simp [Addr.add_lit]; intro h; omega, .ptr ho⟩
    · simp at he
  · rename_i n e hu
    split at he
    · rename_i hie
      simp only [ixArray, Option.bind_eq_some_iff] at he
      obtain ⟨i, hn, he⟩ := he
      obtain ⟨k, rfl⟩ := natOf_some hn
      cases hi
      simp at he
      obtain ⟨hlt, he⟩ := he
      obtain ⟨b, o, rfl, hr'⟩ := fAddr_sound (wh' := wh0) hr he
      refine ⟨_, ?_, hr'⟩
      simp [Instr.indexAt, run_underlying hu, asIntOf, Instr.sureAddr, run_sizeOf' hie, Addr.add_lit]
      intro h; omega
    · simp at he
  · simp at he


theorem index_sound {w : World} {g : Gh} {wh wi : Wh} {x ix : AV} {v vi : Value} (hr : Rep w g wh x v) (hi : Rep w g wi ix vi) {t : TypeId} {r : AV} (he : index P t x ix = some r) :
    ∃ u, (Instr.index t v vi).run P w = .ok u w ∧ Rep w g wh0 r u := by
  unfold index at he
  split at he
  · rename_i hu
    simp only [ixStr, Option.bind_eq_some_iff] at he
    obtain ⟨i, hn, he⟩ := he
    obtain ⟨k, rfl⟩ := natOf_some hn
    cases hi
    cases hr <;> simp at he
    case str l =>
      split at he
      · rename_i b hb
        simp at he
        subst he
        have : (⟨l.toArray⟩ : ByteArray)[i]? = some b := by
          have hlt := (List.getElem?_eq_some_iff.1 hb).1
          have : i < (⟨l.toArray⟩ : ByteArray).size := by simpa [ByteArray.size] using hlt
          rw [getElem?_pos (⟨l.toArray⟩ : ByteArray) i this, ← (List.getElem?_eq_some_iff.1 hb).2]
          rfl
        exact ⟨_, by simp [Instr.index, run_underlying hu, asIntOf, this], .int⟩
      · simp at he
  · rename_i n e hu
    split at he
    · rename_i hce
      simp only [ixAgg, Option.bind_eq_some_iff] at he
      obtain ⟨i, hn, he⟩ := he
      obtain ⟨k, rfl⟩ := natOf_some hn
      cases hi
      simp at he
      obtain ⟨hlt, he⟩ := he
      have hie : (P.info? e).isSome := by
        rcases Bool.or_eq_true _ _ ▸ hce with h | h
        · obtain ⟨d, hd, _⟩ := agg_und h; exact isSome_of_und hd
        · obtain ⟨d, hd, _⟩ := cell_und h; exact isSome_of_und hd
      have hrun : ∀ vs : Array Value, (Instr.index t (.agg vs) (.int k i)).run P w = (Go.part e vs (i * P.cellsOf e)).run P w := by
        intro vs
        have : ¬ (n : Int) ≤ i := by omega
        simp [Instr.index, run_underlying hu, asIntOf, run_sizeOf' hie]
        intro h; omega
      split at he
      · rename_i ha
        cases x <;> simp [fAgg] at he
        rename_i cells
        obtain ⟨vs, rfl, hs, hc⟩ := hr.agg_inv
        obtain ⟨cs, rfl, hl, hcs⟩ := aggAt_get he
        refine ⟨_, (hrun vs).trans ((part_run vs _ w).2 ha), ?_⟩
        refine extract_rep hs (fun j c u h1 h2 => (hc j c u h1 h2).weak) hl hcs ?_
        unfold aggAt at he
        split at he
        · exact .inr (by assumption)
        · simp at he
      · rename_i ha
        have hcl : isCell P e = true := by simpa [ha] using hce
        cases x <;> simp [fCell] at he
        rename_i cells
        obtain ⟨vs, rfl, hs, hc⟩ := hr.agg_inv
        have hlt : i * P.cellsOf e < vs.size := by rw [hs]; exact (List.getElem?_eq_some_iff.1 he).1
        exact ⟨vs[i * P.cellsOf e], (hrun vs).trans ((part_run vs _ w).1 hcl _ (by simp [hlt])), (hc _ _ _ he (by simp [hlt])).weak⟩
    · simp at he
  · simp at he

theorem intBin_sound {w : World} {g : Gh} {op : BinOp} {t : TypeId} {k : IntKind} {a b : Int} {r : AV} (he : intBin op k a b = some r) (h1 : op ≠ .shl) (h2 : op ≠ .shr) :
    ∃ u, (Go.binOp op t (.int k a) (.int k b)).run P w = .ok u w ∧ Rep w g wh0 r u := by
  cases op with
  | add => simp only [intBin, Option.some.injEq] at he; subst he; exact ⟨_, by rw [binOp_add]; rfl, .int⟩
  | sub => simp only [intBin, Option.some.injEq] at he; subst he; exact ⟨_, by rw [binOp_sub]; rfl, .int⟩
  | mul => simp only [intBin, Option.some.injEq] at he; subst he; exact ⟨_, by rw [binOp_mul]; rfl, .int⟩
  | and => simp only [intBin, intBits, Option.some.injEq] at he; subst he; exact ⟨_, by rw [binOp_and]; rfl, .int⟩
  | or => simp only [intBin, intBits, Option.some.injEq] at he; subst he; exact ⟨_, by rw [binOp_or]; rfl, .int⟩
  | xor => simp only [intBin, intBits, Option.some.injEq] at he; subst he; exact ⟨_, by rw [binOp_xor]; rfl, .int⟩
  | andNot => simp only [intBin, intBits, Option.some.injEq] at he; subst he; exact ⟨_, by rw [binOp_andNot]; rfl, .int⟩
  | eql => simp only [intBin, Option.some.injEq] at he; subst he; exact ⟨_, by rw [binOp_eql]; rfl, .bool⟩
  | neq => simp only [intBin, Option.some.injEq] at he; subst he; exact ⟨_, by rw [binOp_neq]; rfl, .bool⟩
  | lss => simp only [intBin, Option.some.injEq] at he; subst he; exact ⟨_, by rw [binOp_lss]; rfl, .bool⟩
  | leq => simp only [intBin, Option.some.injEq] at he; subst he; exact ⟨_, by rw [binOp_leq]; rfl, .bool⟩
  | gtr => simp only [intBin, Option.some.injEq] at he; subst he; exact ⟨_, by rw [binOp_gtr]; rfl, .bool⟩
  | geq => simp only [intBin, Option.some.injEq] at he; subst he; exact ⟨_, by rw [binOp_geq]; rfl, .bool⟩
  | quo =>
    simp only [intBin] at he
    split at he
    · cases he
    · rename_i hb
      simp only [Option.some.injEq] at he
      subst he
      exact ⟨_, by rw [binOp_quo]; simp only [Op.intDiv, if_neg hb]; rfl, .int⟩
  | rem =>
    simp only [intBin] at he
    split at he
    · cases he
    · rename_i hb
      simp only [Option.some.injEq] at he
      subst he
      exact ⟨_, by rw [binOp_rem]; simp only [Op.intDiv, if_neg hb]; rfl, .int⟩
  | shl => exact absurd rfl h1
  | shr => exact absurd rfl h2

theorem str_size (l : List UInt8) : (⟨l.toArray⟩ : ByteArray).size = l.length := by simp [ByteArray.size]
theorem str_toList (l : List UInt8) : (⟨l.toArray⟩ : ByteArray).toList = l := by
  rw [ByteArray.toList_eq]
theorem str_append (l m : List UInt8) : (⟨l.toArray⟩ : ByteArray) ++ ⟨m.toArray⟩ = ⟨(l ++ m).toArray⟩ := by
  apply ByteArray.ext
  simp

theorem strBin_sound {w : World} {g : Gh} {op : BinOp} {t : TypeId} {a b : List UInt8} {r : AV} (he : strBin op a b = some r) :
    ∃ u, (Go.binOp op t (.string ⟨a.toArray⟩) (.string ⟨b.toArray⟩)).run P w = .ok u w ∧ Rep w g wh0 r u := by
  cases op <;> simp [strBin] at he
  · obtain ⟨hb, rfl⟩ := he
    refine ⟨.string ⟨(a ++ b).toArray⟩, ?_, .str⟩
    have : ¬ (9223372036854775807 < (a.length : Int) + (b.length : Int)) := by omega
    simp [Go.binOp, Op.stringOp, str_size, this, str_append]
  all_goals first
    | (subst he; exact ⟨_, by simp only [Go.binOp, Op.stringOp, str_toList]; rfl, .bool⟩)
    | (subst he; exact ⟨_, by simp [Go.binOp, Op.stringOp, str_toList], .bool⟩)


theorem shift_sound {w : World} {g : Gh} {op : BinOp} {k : IntKind} {a b : Int} {r : AV} (he : shiftBin op k a b = some r) (yk : IntKind) (t : TypeId) (h : op = .shl ∨ op = .shr) :
    ∃ u, (Go.binOp op t (.int k a) (.int yk b)).run P w = .ok u w ∧ Rep w g wh0 r u := by
  unfold shiftBin at he
  split at he
  · cases he
  · rename_i hb
    rcases h with rfl | rfl <;> (simp only [Option.some.injEq] at he; subst he)
    · exact ⟨_, by rw [binOp_shl]; simp only [Op.shift, if_neg hb]; rfl, .int⟩
    · exact ⟨_, by rw [binOp_shr]; simp only [Op.shift, if_neg hb]; rfl, .int⟩

theorem bin_sound {w : World} {g : Gh} {wx wy : Wh} {op : BinOp} {x y r : AV} {u v : Value} (hx : Rep w g wx x u) (hy : Rep w g wy y v) (he : bin op x y = some r) (t : TypeId)
    (xo yo : Operand) : ∃ z, (do eqGuard op t xo yo u v; Go.binOp op t u v : Sem Value).run P w = .ok z w ∧ Rep w g wh0 r z := by
  unfold bin at he
  split at he
  · cases hx; cases hy
    obtain ⟨z, h1, h2⟩ := shift_sound (P := P) (w := w) (g := g) he (by assumption) t (.inl rfl)
    exact ⟨z, by simp [h1, eqGuard_shl], h2⟩
  · cases hx; cases hy
    obtain ⟨z, h1, h2⟩ := shift_sound (P := P) (w := w) (g := g) he (by assumption) t (.inr rfl)
    exact ⟨z, by simp [h1, eqGuard_shr], h2⟩
  · cases hx; cases hy
    split at he
    · rename_i hk
      subst hk
      by_cases h1 : op = .shl
      · subst h1; exfalso; simp_all
      by_cases h2 : op = .shr
      · subst h2; exfalso; simp_all
      obtain ⟨z, h3, h4⟩ := intBin_sound (P := P) (w := w) (g := g) (t := t) he h1 h2
      exact ⟨z, by simp [h3, eqGuard_at_int], h4⟩
    · cases he
  · cases hx; cases hy
    obtain ⟨z, h1, h2⟩ := strBin_sound (P := P) (w := w) (g := g) (t := t) he
    exact ⟨z, by simp [h1, eqGuard_at_string], h2⟩
  · cases he

theorem equal_bool {t : TypeId} (h : P.underlying t = some .bool) (a b : Bool) (w : World) : (Op.equal t (.bool a) (.bool b)).run P w = .ok (a == b) w := by
  have : ∀ d, (Op.equalIn (d + 1) t (.bool a) (.bool b)).run P w = .ok (a == b) w := by
    intro d; simp [Op.equalIn, run_underlying h]
  exact this 9999

theorem binBool_sound {w : World} {g : Gh} {wx wy : Wh} {op : BinOp} {x y r : AV} {u v : Value} (hx : Rep w g wx x u) (hy : Rep w g wy y v) (he : binBool op x y = some r) {t : TypeId} (ht : isBool P t = true)
    (xo yo : Operand) : ∃ z, (do eqGuard op t xo yo u v; Go.binOp op t u v : Sem Value).run P w = .ok z w ∧ Rep w g wh0 r z := by
  have hu : P.underlying t = some .bool := by
    unfold isBool at ht
    split at ht
    · assumption
    · cases ht
  unfold binBool at he
  split at he
  · cases hx; cases hy
    simp only [Option.some.injEq] at he
    subst he
    exact ⟨_, by simp [eqGuard_at_bool, Go.binOp, equal_bool hu], .bool⟩
  · cases hx; cases hy
    simp only [Option.some.injEq] at he
    subst he
    exact ⟨_, by simp [eqGuard_at_bool, Go.binOp, equal_bool hu], .bool⟩
  · cases he

theorem unOp_sound {w : World} {g : Gh} {wx : Wh} {op : UnOp} {x r : AV} {u : Value} (hx : Rep w g wx x u) (he : unOp op x = some r) :
    ∃ z, (Op.unary op u).run P w = .ok z w ∧ Rep w g wh0 r z := by
  unfold unOp at he
  split at he
  · cases hx; simp only [Option.some.injEq] at he; subst he
    exact ⟨_, by simp only [Op.unary, Op.intArith]; rfl, .int⟩
  · cases hx; simp only [intBits, Option.some.injEq] at he; subst he
    exact ⟨_, by simp only [Op.unary, Op.intBits]; rfl, .int⟩
  · cases hx; simp only [Option.some.injEq] at he; subst he
    exact ⟨_, by simp only [Op.unary]; rfl, .bool⟩
  · cases he

theorem bound_sound {w : World} {g : Gh} {dflt : Nat} {lo : Option AV} {ol : Option Value} (hl : ∀ a, lo = some a → ∃ v, ol = some v ∧ ∃ wh, Rep w g wh a v) (hn : lo = none → ol = none) {i : Nat} (he : bound dflt lo = some i) :
    (lo = none ∧ ol = none ∧ i = dflt) ∨ ∃ k, ol = some (.int k i) ∧ lo.isSome := by
  cases lo with
  | none => simp [bound] at he; exact .inl ⟨rfl, hn rfl, he.symm⟩
  | some a =>
    obtain ⟨v, h1, wh, h2⟩ := hl a rfl
    obtain ⟨k, rfl⟩ := natOf_some he
    cases h2
    exact .inr ⟨k, h1, rfl⟩

theorem sliceBound_ok {k : IntKind} {i y : Nat} (h : i ≤ y) (c : BoundsCode) (w : World) : (Instr.sliceBound (.int k i) y c).run P w = .ok i w := by
  have : (i : Int) ≤ y := by omega
  simp [Instr.sliceBound, asIntOf, this]

theorem extract_str (l : List UInt8) (a b : Nat) : (⟨l.toArray⟩ : ByteArray).extract a b = ⟨((l.take b).drop a).toArray⟩ := by
  rw [ByteArray.extract_mk]
  congr 1
  apply Array.ext'
  simp [List.drop_take]

theorem slice_str_sound {w : World} {g : Gh} {wx : Wh} {x : AV} {u : Value} (hx : Rep w g wx x u) {t : TypeId} (ht : P.underlying t = some .string) {lo hi : Option AV} {ol oh : Option Value}
    (hl : ∀ a, lo = some a → ∃ v, ol = some v ∧ ∃ wh, Rep w g wh a v) (hln : lo = none → ol = none)
    (hh : ∀ a, hi = some a → ∃ v, oh = some v ∧ ∃ wh, Rep w g wh a v) (hhn : hi = none → oh = none) {r : AV} (he : slStr x lo hi = some r) :
    ∃ z, (Instr.slice t u ol oh none).run P w = .ok z w ∧ Rep w g wh0 r z := by
  unfold slStr at he
  split at he
  · rename_i s
    cases hx
    simp only [Option.bind_eq_some_iff] at he
    obtain ⟨l, h1, hh', h2, he⟩ := he
    split at he
    · rename_i hc
      simp only [Option.some.injEq] at he
      subst he
      refine ⟨.string (ByteArray.extract ⟨s.toArray⟩ l hh'), ?_, by rw [extract_str]; exact .str⟩
      have b1 := bound_sound (w := w) (g := g) hl hln h1
      have b2 := bound_sound (w := w) (g := g) hh hhn h2
      rcases b1 with ⟨_, rfl, rfl⟩ | ⟨k1, rfl, _⟩ <;> rcases b2 with ⟨_, rfl, rfl⟩ | ⟨k2, rfl, _⟩ <;>
        simp [Instr.slice, run_underlying ht, Instr.sliceBounds, str_size, sliceBound_ok hc.1, sliceBound_ok hc.2]
      rw [extract_str]
      simp
    · cases he
  · cases he

theorem slice_slice_sound {w : World} {g : Gh} {wx : Wh} {x : AV} {u : Value} (hx : Rep w g wx x u) {t e : TypeId} (ht : P.underlying t = some (.slice e)) (hie : (P.info? e).isSome) {lo hi mx : Option AV} {ol oh om : Option Value}
    (hl : ∀ a, lo = some a → ∃ v, ol = some v ∧ ∃ wh, Rep w g wh a v) (hln : lo = none → ol = none)
    (hh : ∀ a, hi = some a → ∃ v, oh = some v ∧ ∃ wh, Rep w g wh a v) (hhn : hi = none → oh = none)
    (hm : ∀ a, mx = some a → ∃ v, om = some v ∧ ∃ wh, Rep w g wh a v) (hmn : mx = none → om = none) {r : AV} (he : slSlice (P.cellsOf e) x lo hi mx = some r) :
    ∃ z, (Instr.slice t u ol oh om).run P w = .ok z w ∧ Rep w g wh0 r z := by
  have hrun : ∀ (a : Option Addr) (n c l h m : Nat), l ≤ h → h ≤ n → n ≤ c → ((lo = none ∧ ol = none ∧ l = 0) ∨ ∃ k, ol = some (.int k l) ∧ lo.isSome) → ((hi = none ∧ oh = none ∧ h = n) ∨ ∃ k, oh = some (.int k h) ∧ hi.isSome) →
      ((om = none ∧ m = c) ∨ ∃ k, om = some (.int k m) ∧ m = h ∧ hi.isSome) →
      (Instr.slice t (.slice a n c) ol oh om).run P w = .ok (.slice (if m = l then a else a.map (·.add (l * P.cellsOf e))) (h - l) (m - l)) w := by
    intro a n c l h m h1 h2 h3 b1 b2 b3
    have h4 : h ≤ c := by omega
    rcases b3 with ⟨rfl, rfl⟩ | ⟨k3, rfl, rfl, hi3⟩
    · rcases b1 with ⟨_, rfl, rfl⟩ | ⟨k1, rfl, _⟩ <;> rcases b2 with ⟨_, rfl, rfl⟩ | ⟨k2, rfl, _⟩ <;>
        simp [Instr.slice, run_underlying ht, Instr.sliceBounds, sliceBound_ok h1, sliceBound_ok h4, run_sizeOf' hie]
    · rcases b2 with ⟨h5, _⟩ | ⟨k2, rfl, _⟩
      · simp [h5] at hi3
      · rcases b1 with ⟨_, rfl, rfl⟩ | ⟨k1, rfl, _⟩ <;>
          simp [Instr.slice, run_underlying ht, Instr.sliceBounds, sliceBound_ok h1, sliceBound_ok h4, sliceBound_ok (Nat.le_refl m), run_sizeOf' hie]
  unfold slSlice at he
  split at he
  · rename_i rows o
    cases hx with
    | @list _ _ _ a n c b off s f hn hc ha hs h1 h2 hr =>
      simp only [Option.bind_eq_some_iff] at he
      obtain ⟨l, e1, hh', e2, he⟩ := he
      split at he
      · rename_i hcnd
        obtain ⟨c1, c2, c3⟩ := hcnd
        have b1 := bound_sound (w := w) (g := g) hl hln e1
        have b2 := bound_sound (w := w) (g := g) hh hhn e2
        have hsz : rows ≠ [] → s = P.cellsOf e := by
          intro hne
          cases rows with
          | nil => exact absurd rfl hne
          | cons r0 rs =>
            have := hs r0 (by simp)
            simp at c3
            omega
        subst hn
        have rep : ∀ (m : Nat) (ow : Own), hh' ≤ m → (ow = .no ∨ (ow = .cap ∧ m = hh')) →
            Rep w g wh0 (.list ((rows.take hh').drop l) ow) (.slice (if m = l then a else a.map (·.add (l * P.cellsOf e))) (hh' - l) (m - l)) := by
          intro m ow hm how
          by_cases hne : (rows.take hh').drop l = []
          · have : hh' - l = 0 := by
              have := congrArg List.length hne
              simp at this; omega
            rw [hne, this]
            refine .list 0 0 0 (fun _ _ => undef) rfl (by omega) (by simp) (by simp) (by simp) (by simp) ?_
            rcases how with rfl | ⟨rfl, rfl⟩
            · trivial
            · show m - l = 0; omega
          · have hlen : l < hh' := by
              rcases Nat.lt_or_ge l hh' with h | h
              · exact h
              · exact absurd (List.drop_eq_nil_of_le (by simp; omega)) hne
            have hrne : rows ≠ [] := by rintro rfl; simp at hne
            have hml : m ≠ l := by omega
            have hss := hsz hrne
            rw [ha hrne, if_neg hml]
            simp only [Option.map_some, Addr.add_lit]
            have hget : ∀ (i : Nat) r, ((rows.take hh').drop l)[i]? = some r → rows[l + i]? = some r := by
              intro i r hi
              rw [List.getElem?_drop, List.getElem?_take] at hi
              split at hi
              · exact hi
              · cases hi
            refine .list b (off + l * P.cellsOf e) s (fun i j => f (l + i) j) (by simp; omega) (by omega) (fun _ => rfl) (fun r hr' => hs r (List.mem_of_mem_take (List.mem_of_mem_drop hr'))) ?_ ?_ ?_
            · intro i r j cl hi hj
              have := h1 (l + i) r j cl (hget i r hi) hj
              rwa [show off + (l + i) * s + j = off + l * P.cellsOf e + i * s + j by rw [hss, Nat.add_mul]; omega] at this
            · intro i r j cl hi hj
              exact h2 (l + i) r j cl (hget i r hi) hj
            · rcases how with rfl | ⟨rfl, rfl⟩
              · trivial
              · show m - l = m - l; rfl
        split at he
        · simp only [Option.some.injEq] at he
          subst he
          refine ⟨_, hrun a _ c l hh' c c1 c2 hc b1 b2 (.inl ⟨hmn rfl, rfl⟩), rep c .no (by omega) (.inl rfl)⟩
        · rename_i m
          split at he
          · rename_i hm2
            simp only [Option.some.injEq] at he
            subst he
            obtain ⟨v, hv, wh, hrv⟩ := hm m rfl
            obtain ⟨k, rfl⟩ := natOf_some hm2.1
            cases hrv
            exact ⟨_, hrun a _ c l hh' hh' c1 c2 hc b1 b2 (.inr ⟨k, hv, rfl, hm2.2⟩), rep hh' .cap (Nat.le_refl _) (.inr ⟨rfl, rfl⟩)⟩
          · cases he
      · cases he
  · rename_i id off len s'
    split at he
    · rename_i hmx
      cases hx with
      | @slc _ _ _ _ _ a c hlc hac =>
        simp only [Option.bind_eq_some_iff] at he
        obtain ⟨l, e1, hh', e2, he⟩ := he
        split at he
        · rename_i hcnd
          obtain ⟨c1, c2, rfl⟩ := hcnd
          simp only [Option.some.injEq] at he
          subst he
          have b1 := bound_sound (w := w) (g := g) hl hln e1
          have b2 := bound_sound (w := w) (g := g) hh hhn e2
          refine ⟨_, hrun a len c l hh' c c1 c2 hlc b1 b2 (.inl ⟨hmn rfl, rfl⟩), .slc (by omega) ?_⟩
          by_cases hcl : c = l
          · exact .inl (by omega)
          · right
            rw [if_neg hcl]
            rcases hac with rfl | ⟨b, rfl, ho⟩
            · omega
            · exact ⟨b, by simp [Addr.add_lit], ho⟩
        · cases he
    · cases he
  · cases he

end
end Go.Ve

/- VE: more of the operations that only read. -/
namespace Go.Ve
open Go

section
variable {P : Program}

theorem fold_bytes (ns : List Int) (r : ByteArray) : ns.foldl (fun r n => r.push (UInt8.ofNat n.toNat)) r = ⟨r.data ++ (ns.map fun n => UInt8.ofNat n.toNat).toArray⟩ := by
  induction ns generalizing r with
  | nil => simp
  | cons n ns ih => simp only [List.foldl_cons]; rw [ih]; simp [ByteArray.push]

theorem rows_bytes {rows : List (List AV)} {bs : List UInt8} (h : rows.mapM rowByte = some bs) : ∃ ns : List Int, rows = ns.map (fun n => [AV.int .u8 n]) ∧ bs = ns.map fun n => UInt8.ofNat n.toNat := by
  induction rows generalizing bs with
  | nil => simp at h; subst h; exact ⟨[], rfl, rfl⟩
  | cons r rs ih =>
    simp only [List.mapM_cons, Option.bind_eq_bind, Option.bind_eq_some_iff, Option.pure_def, Option.some.injEq] at h
    obtain ⟨b, hb, bs', hbs, rfl⟩ := h
    obtain ⟨ns, rfl, rfl⟩ := ih hbs
    unfold rowByte at hb
    split at hb
    · rename_i n
      simp only [Option.some.injEq] at hb
      subst hb
      exact ⟨n :: ns, rfl, rfl⟩
    · cases hb
theorem cells_bytes {cells : List AV} {bs : List UInt8} (h : cells.mapM cellByte = some bs) : ∃ ns : List Int, cells = ns.map (fun n => AV.int .u8 n) ∧ bs = ns.map fun n => UInt8.ofNat n.toNat := by
  induction cells generalizing bs with
  | nil => simp at h; subst h; exact ⟨[], rfl, rfl⟩
  | cons r rs ih =>
    simp only [List.mapM_cons, Option.bind_eq_bind, Option.bind_eq_some_iff, Option.pure_def, Option.some.injEq] at h
    obtain ⟨b, hb, bs', hbs, rfl⟩ := h
    obtain ⟨ns, rfl, rfl⟩ := ih hbs
    unfold cellByte at hb
    split at hb
    · rename_i n
      simp only [Option.some.injEq] at hb
      subst hb
      exact ⟨n :: ns, rfl, rfl⟩
    · cases hb

theorem bytesStr_sound {w : World} {g : Gh} {h : H} (hH : HR w g h) {wh : Wh} {x : AV} {v : Value} (hr : Rep w g wh x v) {r : AV} (he : bytesStr h x = some r) :
    ∃ u, (Conv.bytesToString v).run P w = .ok u w ∧ Rep w g wh0 r u := by
  have main : ∀ (a : Option Addr) (c : Nat) (ns : List Int), (ns ≠ [] → ∃ b off, a = some ⟨b, off, none⟩ ∧ ∀ (j : Nat) n, ns[j]? = some n → w.cell? ⟨b, off + j, none⟩ = some (.int .u8 n)) →
      (Conv.bytesToString (.slice a ns.length c)).run P w = .ok (.string ⟨(ns.map fun n => UInt8.ofNat n.toNat).toArray⟩) w := by
    intro a c ns hns
    cases a with
    | none =>
      cases ns with
      | nil => simp [Conv.bytesToString]; rfl
      | cons n ns => obtain ⟨b, off, h, _⟩ := hns (by simp); cases h
    | some a =>
      have hl : (loadCells a ns.length).run P w = .ok (ns.map (Value.int .u8)).toArray w := by
        by_cases hne : ns = []
        · subst hne; simp [loadCells, loadCellsFrom]
        · obtain ⟨b, off, ha, hc⟩ := hns hne
          simp only [Option.some.injEq] at ha
          subst ha
          have := run_loadCells_list (P := P) w ⟨b, off, none⟩ (ns.map (Value.int .u8)) (fun j v hj => by
            simp only [List.getElem?_map, Option.map_eq_some_iff] at hj
            obtain ⟨n, hn, rfl⟩ := hj
            rw [Addr.add_lit]; exact hc j n hn)
          simpa using this
      rw [run_bytesToString w a ns.length c ns hl, fold_bytes]
      have : ByteArray.empty.data = #[] := rfl
      simp [this]
  unfold bytesStr at he
  split at he
  · rename_i rows o
    simp only [Option.map_eq_some_iff] at he
    obtain ⟨bs, hbs, rfl⟩ := he
    obtain ⟨ns, rfl, rfl⟩ := rows_bytes hbs
    cases hr with
    | @list _ _ _ a n c b off s f hn hc ha hs h1 h2 hroom =>
      suffices key : ns ≠ [] → ∃ b off, a = some ⟨b, off, none⟩ ∧ ∀ (j : Nat) n, ns[j]? = some n → w.cell? ⟨b, off + j, none⟩ = some (.int .u8 n) from
        ⟨_, by rw [hn, List.length_map]; exact main a c ns key, .str⟩
      intro hne
      refine ⟨b, off, ha (by simpa using hne), fun j n hj => ?_⟩
      have hs1 : s = 1 := by
        cases ns with
        | nil => exact absurd rfl hne
        | cons n ns => exact (hs [AV.int .u8 n] (by simp)).symm
      subst hs1
      have hrow : (ns.map (fun n => [AV.int .u8 n]))[j]? = some [AV.int .u8 n] := by simp [hj]
      have e1 := (h1 j _ 0 _ hrow rfl).2.2
      have e2 := h2 j _ 0 _ hrow rfl
      generalize hf : f j 0 = u at e1 e2
      cases e2
      simpa using e1
  · rename_i id off len s'
    split at he
    · rename_i cells ro hid
      split at he
      · rename_i hle
        simp only [Option.map_eq_some_iff] at he
        obtain ⟨bs, hbs, rfl⟩ := he
        obtain ⟨ns, hns, rfl⟩ := cells_bytes hbs
        have hlen : ns.length = len := by
          have := congrArg List.length hns
          simp at this; omega
        cases hr with
        | @slc _ _ _ _ _ a c hlc hac =>
          suffices key : ns ≠ [] → ∃ b off, a = some ⟨b, off, none⟩ ∧ ∀ (j : Nat) n, ns[j]? = some n → w.cell? ⟨b, off + j, none⟩ = some (.int .u8 n) from
            ⟨_, by rw [← hlen]; exact main a c ns key, .str⟩
          intro hne
          have : 0 < ns.length := List.length_pos_iff.2 hne
          rcases hac with rfl | ⟨b, rfl, ho⟩
          · omega
          · refine ⟨b, off, rfl, fun j n hj => ?_⟩
            have hob := hH.obj id _ hid ⟨_, ho⟩
            cases hob with
            | @arr _ _ b' vs ty fr ho' hb hs hc hro =>
              obtain rfl := hH.inj _ _ _ ho ho'
              have hjl := (List.getElem?_eq_some_iff.1 hj).1
              have hcell : cells[off + j]? = some (.int .u8 n) := by
                have : ((cells.drop off).take len)[j]? = some (.int .u8 n) := by rw [hns]; simp [hj]
                rw [List.getElem?_take] at this
                split at this
                · rwa [List.getElem?_drop] at this
                · cases this
              have hlt : off + j < vs.size := by rw [hs]; exact (List.getElem?_eq_some_iff.1 hcell).1
              have hrep := (hc (off + j) _ vs[off + j] hcell (by simp [hlt])).2
              generalize hu : vs[off + j] = u at hrep
              cases hrep
              simp [World.cell?, hb, hlt, hu]
      · cases he
    · cases he
  · cases he

theorem alen_sound {w : World} {g : Gh} {h : H} (hH : HR w g h) {wh : Wh} {x : AV} {v : Value} (hr : Rep w g wh x v) {r : AV} {t : TypeId} (he : alen P t h x = some r) (ty : TypeId) :
    ∃ u, (Builtin.len_ #[t] ty #[v]).run P w = .ok u w ∧ Rep w g wh0 r u := by
  unfold alen at he
  split at he
  · rename_i hu
    cases hr <;> simp [lnStr] at he
    subst he
    exact ⟨_, by simp [Builtin.len_, run_underlying hu, goInt, str_size], .int⟩
  · rename_i e hu
    cases x <;> simp [lnSl] at he
    · subst he
      cases hr with
      | list b off s f hn hc ha hs h1 h2 hroom =>
        subst hn
        exact ⟨_, by simp [Builtin.len_, run_underlying hu, goInt], .int⟩
    · subst he
      cases hr
      exact ⟨_, by simp [Builtin.len_, run_underlying hu, goInt], .int⟩
  · rename_i k e hu
    cases x with
    | nilMap =>
      simp only [lnMap, Option.some.injEq] at he
      subst he
      cases hr
      exact ⟨_, by simp [Builtin.len_, run_underlying hu, goInt], .int⟩
    | map id =>
      simp only [lnMap] at he
      cases hr with
      | map ho =>
        split at he
        · rename_i es hid
          simp only [Option.some.injEq] at he
          subst he
          have hob := hH.obj id _ hid ⟨_, ho⟩
          cases hob with
          | @map _ b' ms clock ho' hb hs hst hc =>
            obtain rfl := hH.inj _ _ _ ho ho'
            exact ⟨_, by simp [Builtin.len_, run_underlying hu, goInt, MapKept.run_getObj_map hb, hs], .int⟩
        · cases he
    | _ => simp [lnMap] at he
  · rename_i n e hu
    simp only [Option.some.injEq] at he
    subst he
    exact ⟨_, by simp [Builtin.len_, run_underlying hu, goInt], .int⟩
  · cases he

theorem extract_sound {w : World} {g : Gh} {wh : Wh} {x : AV} {v : Value} (hr : Rep w g wh x v) {j : Nat} {r : AV} (he : exTuple j x = some r) :
    ∃ u, (Instr.extract v j).run P w = .ok u w ∧ Rep w g (fun _ c => wh j c) r u := by
  cases hr <;> simp [exTuple] at he
  case tuple xs vs hs hc =>
    have hlt : j < vs.size := by rw [hs]; exact (List.getElem?_eq_some_iff.1 he).1
    exact ⟨vs[j], by simp [Instr.extract, hlt], hc j _ _ he (by simp [hlt])⟩

theorem nilOk_sound {w : World} {g : Gh} {wh wh' : Wh} {x : AV} {v : Value} (hr : Rep w g wh x v) {r : AV} (he : nilOk x = some r) (o : Oper) (ρ : Operand → Value) (y : Operand) (ho : o.op = .nilCheck y) (hy : ρ y = v) :
    (execOp ρ o).run P w = .ok (.value v) w ∧ Rep w g wh' r v := by
  unfold nilOk at he
  split at he
  · cases he; cases hr with | ptr h => exact ⟨by simp [execOp, ho, hy], .ptr h⟩
  · cases he; cases hr with | rptr f h1 h2 => exact ⟨by simp [execOp, ho, hy], .rptr f h1 h2⟩
  · cases he; cases hr with | func h1 h2 h3 h4 => exact ⟨by simp [execOp, ho, hy], .func h1 h2 h3 h4⟩
  · cases he; cases hr with | iface h => exact ⟨by simp [execOp, ho, hy], .iface h⟩
  · cases he


/-! constants and zeros -/
theorem ofCell_rep {w : World} {g : Gh} {wh : Wh} (v : Value) : Rep w g wh (.ofCell v) v := by
  unfold AV.ofCell
  split
  · exact .bool
  · exact .int
  · rename_i s
    have : s = ⟨s.data.toList.toArray⟩ := by cases s; rfl
    rw [this]; exact .str
  · exact .nilPtr
  · exact .list 0 0 0 (fun _ _ => undef) rfl (by omega) (by simp) (by simp) (by simp) (by simp) rfl
  · exact .nilMap
  · exact .nilFunc
  · exact .nilIface
  · exact .undef
theorem ofVal_rep {w : World} {g : Gh} {wh : Wh} (v : Value) : Rep w g wh (.ofVal v) v := by
  unfold AV.ofVal
  split
  · rename_i cs
    refine .agg (by simp) fun j c u hj hu => ?_
    simp only [List.getElem?_map, Array.getElem?_toList, Option.map_eq_some_iff] at hj
    obtain ⟨x, hx, rfl⟩ := hj
    rw [hx] at hu
    cases hu
    exact ofCell_rep _
  · exact ofCell_rep _

theorem zero_sound {w : World} {g : Gh} {wh : Wh} {t : TypeId} {z : AV} (h : zero P t = some z) : ∃ v, (zeroValue t).run P w = .ok v w ∧ z = .ofVal v ∧ Rep w g wh z v ∧ (P.info? t).bind (·.zero) = some v := by
  unfold zero at h
  simp only [Option.map_eq_some_iff] at h
  obtain ⟨v, hv, rfl⟩ := h
  cases hi : P.info? t with
  | none => simp [hi] at hv
  | some i => simp [hi] at hv; exact ⟨v, by simp [zeroValue, typeInfo, hi, hv], rfl, ofVal_rep v, by simp [hv]⟩

theorem typeAssert_sound {w : World} {g : Gh} {wh : Wh} {x : AV} {v : Value} (hr : Rep w g wh x v) {t : TypeId} {ok : Bool} {r : AV} (he : typeAssert P x t ok = some r) (xT : TypeId) :
    ∃ u, (Instr.typeAssert v xT t ok).run P w = .ok u w ∧ Rep w g wh0 r u := by
  have two : ∀ {a : AV} {u : Value} {b : Bool}, Rep w g wh0 a u → Rep w g wh0 (.tuple [a, .bool b]) (.tuple #[u, .bool b]) := by
    intro a u b h
    refine .tuple rfl fun i x v hx hv => ?_
    match i with
    | 0 => simp at hx hv; subst hx hv; exact h
    | 1 => simp at hx hv; subst hx hv; exact .bool
    | i + 2 => simp at hx
  unfold typeAssert at he
  split at he
  · rename_i want hu hz
    obtain ⟨z, hzr, hzv, _, _⟩ := zero_sound (P := P) (w := w) (g := g) (wh := wh0) hz
    have hz0 : Rep w g wh0 .nilIface z := by rw [hzv]; exact ofVal_rep z
    cases hz0
    cases hr <;> simp [taIface] at he
    · obtain ⟨h1, rfl⟩ := he
      subst h1
      exact ⟨_, by simp [Instr.typeAssert, run_underlying hu, hzr], two .nilIface⟩
    · rename_i d x y hxy
      split at he
      · rename_i info hi
        split at he
        · rename_i hm
          simp only [Option.some.injEq] at he
          cases ok with
          | true => simp at he; subst he; exact ⟨_, by simp [Instr.typeAssert, run_underlying hu, typeInfo, hi, hm], two (.iface hxy)⟩
          | false => simp at he; subst he; exact ⟨_, by simp [Instr.typeAssert, run_underlying hu, typeInfo, hi, hm], .iface hxy⟩
        · rename_i s hm
          simp at he
          obtain ⟨rfl, rfl⟩ := he
          exact ⟨_, by simp [Instr.typeAssert, run_underlying hu, typeInfo, hi, hm, hzr], two .nilIface⟩
      · cases he
  · cases he
  · rename_i d z _ hni hu hz
    obtain ⟨zv, hzr, hzv, hz0, _⟩ := zero_sound (P := P) (w := w) (g := g) (wh := wh0) hz
    have hnot : ∀ ms, d ≠ TypeDesc.interface ms := fun ms e => hni ms e
    cases hr <;> simp [taTo] at he
    · obtain ⟨h1, rfl⟩ := he
      subst h1
      refine ⟨_, ?_, two hz0⟩
      cases d <;> first | exact absurd rfl (hnot _) | simp [Instr.typeAssert, run_underlying hu, hzr]
    · rename_i d' x y hxy
      split at he
      · rename_i heq
        subst heq
        simp only [Option.some.injEq] at he
        cases ok with
        | true =>
          simp at he; subst he
          refine ⟨_, ?_, two hxy⟩
          cases d <;> first | exact absurd rfl (hnot _) | (simp [Instr.typeAssert, run_underlying hu])
        | false =>
          simp at he; subst he
          refine ⟨_, ?_, hxy⟩
          cases d <;> first | exact absurd rfl (hnot _) | (simp [Instr.typeAssert, run_underlying hu])
      · rename_i hne
        simp at he
        obtain ⟨rfl, rfl⟩ := he
        refine ⟨_, ?_, two hz0⟩
        cases d <;> first | exact absurd rfl (hnot _) | (simp [Instr.typeAssert, run_underlying hu, hne, hzr])
  · cases he


theorem part_sound {w : World} {g : Gh} {cells : List AV} {vs : Array Value} (hs : vs.size = cells.length) (hc : ∀ (j : Nat) c u, cells[j]? = some c → vs[j]? = some u → Rep w g wh0 c u) {t : TypeId} {off : Nat} {r : AV}
    (he : part P t cells off = some r) : ∃ u, (Go.part t vs off).run P w = .ok u w ∧ Rep w g wh0 r u := by
  unfold part at he
  split at he
  · rename_i ha
    obtain ⟨cs, rfl, hl, hcs⟩ := aggAt_get he
    refine ⟨_, (part_run vs off w).2 ha, extract_rep hs hc hl hcs ?_⟩
    unfold aggAt at he
    split at he
    · exact .inr (by assumption)
    · simp at he
  · split at he
    · rename_i hce
      have hlt : off < vs.size := by rw [hs]; exact (List.getElem?_eq_some_iff.1 he).1
      exact ⟨vs[off], (part_run vs off w).1 hce _ (by simp [hlt]), hc _ _ _ he (by simp [hlt])⟩
    · cases he

theorem aeqFields_sound {w : World} {g : Gh} {D : Nat} {eq : TypeId → AV → AV → Option Bool}
    (ih : ∀ t x y u v b, eq t x y = some b → Rep w g wh0 x u → Rep w g wh0 y v → (Op.equalIn D t u v).run P w = .ok b w)
    {xs ys : List AV} {us vs : Array Value} (hxs : us.size = xs.length) (hx : ∀ (j : Nat) c u, xs[j]? = some c → us[j]? = some u → Rep w g wh0 c u)
    (hys : vs.size = ys.length) (hy : ∀ (j : Nat) c u, ys[j]? = some c → vs[j]? = some u → Rep w g wh0 c u) :
    ∀ (fs : List Field) (b : Bool), aeqFields P eq xs ys fs = some b → (Op.eqFields D us vs fs).run P w = .ok b w := by
  intro fs
  induction fs with
  | nil => intro b he; simp [aeqFields] at he; subst he; simp [Op.eqFields]
  | cons f fs ihf =>
    intro b he
    unfold aeqFields at he
    split at he
    · rename_i hn
      simp only [Op.eqFields, hn, ne_eq, not_true_eq_false, if_false]
      exact ihf b he
    · rename_i hn
      simp only [Option.bind_eq_some_iff, Option.map_eq_some_iff] at he
      obtain ⟨a, ha, b', hb, r, hr, s, hs, rfl⟩ := he
      obtain ⟨ua, ra, rea⟩ := part_sound hxs hx ha
      obtain ⟨ub, rb, reb⟩ := part_sound hys hy hb
      have re := ih _ _ _ _ _ _ hr rea reb
      simp only [Op.eqFields, hn, ne_eq, not_false_eq_true, if_true, Sem.run_bind, ra, Result.andThen_ok, rb, re, Sem.run_ite]
      cases r
      · simp
      · simp [ihf s hs]

theorem aeq_sound {w : World} {g : Gh} : ∀ (d D : Nat), d ≤ D → ∀ (t : TypeId) (x y : AV) (u v : Value) (b : Bool), aeq P d t x y = some b → Rep w g wh0 x u → Rep w g wh0 y v → (Op.equalIn D t u v).run P w = .ok b w := by
  intro d
  induction d with
  | zero => intro D _ t x y u v b he; simp [aeq] at he
  | succ d ih =>
    intro D hD t x y u v b he hx hy
    obtain ⟨D, rfl⟩ : ∃ D', D = D' + 1 := ⟨D - 1, by omega⟩
    have ih' := ih D (by omega)
    unfold aeq at he
    split at he
    · rename_i hu; cases hx; cases hy; cases he; simp [Op.equalIn, run_underlying hu]
    · rename_i hu; cases hx; cases hy
      split at he
      · rename_i hk; subst hk; cases he; simp [Op.equalIn, run_underlying hu]
      · cases he
    · rename_i hu; cases hx; cases hy; cases he
      simp [Op.equalIn, run_underlying hu, beq_toListBytes, str_toList]
    · rename_i hu; cases hx; cases hy; cases he; simp [Op.equalIn, run_underlying hu]
    · rename_i hu; cases hx; cases hy; cases he; simp [Op.equalIn, run_underlying hu]
    · rename_i hu; cases hx; cases hy; cases he; simp [Op.equalIn, run_underlying hu]
    · rename_i hu; cases hx; cases hy; cases he; simp [Op.equalIn, run_underlying hu]
    · rename_i hu; cases hx; cases hy; cases he; simp [Op.equalIn, run_underlying hu]
    · rename_i hu; cases hx; cases hy; cases he; simp [Op.equalIn, run_underlying hu]
    · rename_i fs xs' ys' hu
      split at he
      · cases he
      · rename_i hp
        obtain ⟨us, rfl, hxs, hx'⟩ := hx.agg_inv
        obtain ⟨vs, rfl, hys, hy'⟩ := hy.agg_inv
        have hfs : P.fieldsOf t = fs := by simp [Program.fieldsOf, hu]
        rw [run_equalIn_struct w D t us vs (by rw [hfs]; exact hu) (by simpa using hp), hfs]
        exact aeqFields_sound ih' hxs hx' hys hy' _ _ he
    · rename_i hu; cases hx; cases hy; cases he; simp [Op.equalIn, run_underlying hu]
    · rename_i hu; cases hx; cases hy; cases he; simp [Op.equalIn, run_underlying hu]
    · rename_i hu; cases hx; cases hy; cases he; simp [Op.equalIn, run_underlying hu]
    · rename_i hu; cases hx; cases hy; cases he; simp [Op.equalIn, run_underlying hu]
    · cases he


theorem equal_sound {w : World} {g : Gh} {t : TypeId} {x y : AV} {u v : Value} {b : Bool} (he : aeq P 20 t x y = some b) (hx : Rep w g wh0 x u) (hy : Rep w g wh0 y v) : (Op.equal t u v).run P w = .ok b w :=
  aeq_sound 20 10000 (by decide) t x y u v b he hx hy

theorem eqGuard_ok {w : World} {g : Gh} {op : BinOp} {t : TypeId} {x y : AV} {u v : Value} {b : Bool} {xo yo : Operand} (he : aeq P 20 t x y = some b) (hx : Rep w g wh0 x u) (hy : Rep w g wh0 y v)
    (hg : ¬ ((isAgg P t || !constOp xo yo) && P.eqGuardType P.depth t) = true) : (eqGuard op t xo yo u v).run P w = .ok () w := by
  unfold aeq at he
  split at he
  case h_10 hu =>
    obtain ⟨us, rfl, _, _⟩ := hx.agg_inv
    obtain ⟨vs, rfl, _, _⟩ := hy.agg_inv
    have : isAgg P t = true := by simp [isAgg, hu]
    exact run_eqGuard_agg w op t xo yo us vs (by simpa [this] using hg)
  case h_9 hu =>
    cases hx; cases hy
    by_cases hc : constOp xo yo = true
    · cases xo with
      | const c => rw [eqGuard_nil_constL]; rfl
      | _ => cases yo with
        | const c => rw [eqGuard_nil_constR]; rfl
        | _ => simp [constOp, isConstO] at hc
    · have hgt : P.eqGuardType P.depth t = false := by simpa [hc] using hg
      rename_i ms
      have hms : ms.isEmpty = true := by
        have : P.depth = (P.depth - 1) + 1 := by unfold Program.depth; omega
        rw [this] at hgt
        simpa [Program.eqGuardType, hu] using hgt
      have hin : ∀ d, (Op.eqGuardIn (d + 1) t .nilIface .nilIface).run P w = .ok false w := by
        intro d; simp [Op.eqGuardIn, run_underlying hu, hms]
      have hin' : (Op.eqGuardIn Op.maxDepth t .nilIface .nilIface).run P w = .ok false w := hin 9999
      cases op <;> simp [eqGuard] <;> (try rfl) <;> (split <;> simp [hin'])
  all_goals first
    | (cases he; done)
    | (cases hx; cases hy; cases op <;> first | rfl | (simp [eqGuard]; done))

theorem binOp_sound {w : World} {g : Gh} {wx wy : Wh} {op : BinOp} {x y r : AV} {u v : Value} (hx : Rep w g wx x u) (hy : Rep w g wy y v) {t : TypeId} {xo yo : Operand} {nilR : Bool} (hn : nilR = true → v = .slice none 0 0)
    (he : binOp P op t (constOp xo yo) nilR x y = some r) : ∃ z, (do eqGuard op t xo yo u v; Go.binOp op t u v : Sem Value).run P w = .ok z w ∧ Rep w g wh0 r z := by
  unfold binOp at he
  split at he
  · exact bin_sound hx hy he t xo yo
  · split at he
    · exact binBool_sound hx hy he (by assumption) xo yo
    · split at he
      · rename_i hsl
        have hu : ∃ e, P.underlying t = some (.slice e) := by
          unfold isSlice at hsl
          split at hsl
          · exact ⟨_, by assumption⟩
          · cases hsl
        obtain ⟨e, hu⟩ := hu
        split at he
        · rename_i hnr
          obtain rfl := hn hnr
          have key : ∀ neq, slNil neq x = some r → (∃ a n c, u = .slice (some a) n c ∧ r = .bool neq) ∨ (∃ n c, u = .slice none n c ∧ r = .bool (!neq)) := by
            intro neq h
            unfold slNil at h
            split at h
            · cases h
              cases hx with
              | list b off s f hn hc ha => exact .inl ⟨_, _, _, by rw [ha (by simp)], rfl⟩
            · cases h
              cases hx with
              | list b off s f hn hc ha hs h1 h2 hr =>
                have hr : _ = none := hr
                subst hr
                exact .inr ⟨_, _, rfl, rfl⟩
            · cases h
              cases hx with
              | @list _ _ _ a n c b off s f hn hc ha hs h1 h2 hr =>
                have hr : a ≠ none := hr
                cases a with
                | none => exact absurd rfl hr
                | some a => exact .inl ⟨_, _, _, rfl, rfl⟩
            · cases h
              cases hx with
              | slc hl hac =>
                rcases hac with rfl | ⟨b, rfl, _⟩
                · omega
                · exact .inl ⟨_, _, _, rfl, rfl⟩
            · cases h
          have hq : ∀ a n c, (Op.equal t (.slice (some a) n c) (.slice none 0 0)).run P w = .ok false w := by
            intro a n c
            have : ∀ d, (Op.equalIn (d + 1) t (.slice (some a) n c) (.slice none 0 0)).run P w = .ok false w := by
              intro d; simp [Op.equalIn, run_underlying hu]
            exact this 9999
          have hq2 : ∀ n c, (Op.equal t (.slice none n c) (.slice none 0 0)).run P w = .ok true w := by
            intro n c
            have : ∀ d, (Op.equalIn (d + 1) t (.slice none n c) (.slice none 0 0)).run P w = .ok true w := by
              intro d; simp [Op.equalIn, run_underlying hu]
            exact this 9999
          split at he
          · rcases key _ he with ⟨a, n, c, rfl, rfl⟩ | ⟨n, c, rfl, rfl⟩
            · exact ⟨_, by simp [eqGuard_at_slice, Go.binOp, hq], .bool⟩
            · exact ⟨_, by simp [eqGuard_at_slice, Go.binOp, hq2], .bool⟩
          · rcases key _ he with ⟨a, n, c, rfl, rfl⟩ | ⟨n, c, rfl, rfl⟩
            · exact ⟨_, by simp [eqGuard_at_slice, Go.binOp, hq], .bool⟩
            · exact ⟨_, by simp [eqGuard_at_slice, Go.binOp, hq2], .bool⟩
          · cases he
        · cases he
      · split at he
        · cases he
        · rename_i hg
          have main : ∀ b, aeq P 20 t x y = some b → ((do eqGuard .eql t xo yo u v; Go.binOp .eql t u v : Sem Value).run P w = .ok (.bool b) w ∧ (do eqGuard .neq t xo yo u v; Go.binOp .neq t u v : Sem Value).run P w = .ok (.bool !b) w) := by
            intro b hb
            have h1 := equal_sound hb hx.weak hy.weak
            have g1 := eqGuard_ok (op := .eql) hb hx.weak hy.weak hg
            have g2 := eqGuard_ok (op := .neq) hb hx.weak hy.weak hg
            have e1 : Go.binOp .eql t u v = (do pure (.bool (← Op.equal t u v))) ∧ Go.binOp .neq t u v = (do pure (.bool (!(← Op.equal t u v)))) := by
              rename_i hf hbl hsl
              unfold aeq at hb
              split at hb
              case h_2 hu => exact absurd (by simp [isFlat, hu]) hf
              case h_3 hu => exact absurd (by simp [isFlat, hu]) hf
              case h_10 hu =>
                obtain ⟨us, rfl, _, _⟩ := hx.agg_inv
                obtain ⟨vs, rfl, _, _⟩ := hy.agg_inv
                exact ⟨rfl, rfl⟩
              all_goals first
                | (cases hb; done)
                | (cases hx; cases hy; exact ⟨rfl, rfl⟩)
            rw [e1.1, e1.2]
            exact ⟨by simp [g1, h1], by simp [g2, h1]⟩
          split at he
          · simp only [eqv, Option.map_eq_some_iff] at he
            obtain ⟨b, hb, rfl⟩ := he
            exact ⟨_, (main b hb).1, by simp; exact .bool⟩
          · simp only [eqv, Option.map_eq_some_iff] at he
            obtain ⟨b, hb, rfl⟩ := he
            exact ⟨_, (main b hb).2, by simp; exact .bool⟩
          · cases he

end
end Go.Ve

/- VE: lookups, conversions, structs built; all reading operations together. -/
namespace Go.Ve
open Go

section
variable {P : Program}

def keyDesc : KK → TypeDesc → Prop
  | .int, .int _ | .str, .string | .bool, .bool => True
  | _, _ => False

theorem key_rep {w : World} {g : Gh} {wh wh' : Wh} {x y : AV} {u v : Value} (hx : Rep w g wh x u) (hy : Rep w g wh' y v) {b : Bool} (he : keyEq x y = some b) {kk : KK} {d : TypeDesc} (hd : keyDesc kk d) (hk : isKey kk x = true) :
    Instr.sameNow d u v = some b := by
  cases x <;> cases y <;> simp [keyEq] at he
  · subst he; cases hx; cases hy; cases kk <;> simp [isKey] at hk; cases d <;> simp [keyDesc] at hd; simp [Instr.sameNow]
  · obtain ⟨rfl, rfl⟩ := he; cases hx; cases hy; cases kk <;> simp [isKey] at hk; cases d <;> simp [keyDesc] at hd; simp [Instr.sameNow]
  · subst he; cases hx; cases hy; cases kk <;> simp [isKey] at hk; cases d <;> simp [keyDesc] at hd; simp [Instr.sameNow, beq_toListBytes, str_toList]

theorem findKey_sound {w : World} {g : Gh} {wh : Wh} {x : AV} {u : Value} (hx : Rep w g wh x u) {kk : KK} {d : TypeDesc} (hd : keyDesc kk d) (hk : isKey kk x = true) :
    ∀ (es : List (AV × AV)) (ms : List MapEntry) (i : Nat) (r : Option Nat), ms.length = es.length → (∀ (j : Nat) e m, es[j]? = some e → ms[j]? = some m → Rep w g wh0 e.1 m.key ∧ Rep w g wh0 e.2 m.val) → findKey x es i = some r →
      (r = none ∧ Instr.findNow d u ms i = some none) ∨ ∃ j m, r = some (i + j) ∧ ms[j]? = some m ∧ Instr.findNow d u ms i = some (some (i + j, m.val)) := by
  intro es
  induction es with
  | nil =>
    intro ms i r hl _ he
    cases ms with
    | nil => simp [findKey] at he; subst he; exact .inl ⟨rfl, rfl⟩
    | cons m ms => simp at hl
  | cons e es ih =>
    intro ms i r hl hc he
    cases ms with
    | nil => simp at hl
    | cons m ms =>
      unfold findKey at he
      have h0 := hc 0 e m rfl rfl
      split at he
      · rename_i hq
        cases he
        have := key_rep hx h0.1 hq hd hk
        exact .inr ⟨0, m, rfl, rfl, by simp [Instr.findNow, this]⟩
      · rename_i hq
        have hs := key_rep hx h0.1 hq hd hk
        rcases ih ms (i + 1) r (by simpa using hl) (fun j e' m' h1 h2 => hc (j + 1) e' m' (by simpa using h1) (by simpa using h2)) he with ⟨h1, h2⟩ | ⟨j, m', h1, h2, h3⟩
        · exact .inl ⟨h1, by simp [Instr.findNow, hs, h2]⟩
        · exact .inr ⟨j + 1, m', by rw [h1]; congr 1; omega, by simpa using h2, by simp [Instr.findNow, hs, h3]; omega⟩
      · cases he

theorem keyKind_und {k : TypeId} {kk : KK} (h : keyKind P k = some kk) : ∃ d, P.underlying k = some d ∧ keyDesc kk d := by
  unfold keyKind at h
  split at h
  · rename_i hu; cases h; refine ⟨_, hu, ?_⟩; trivial
  · rename_i hu; cases h; refine ⟨_, hu, ?_⟩; trivial
  · rename_i hu; cases h; refine ⟨_, hu, ?_⟩; trivial
  · cases h

theorem run_checkKey' {w : World} {g : Gh} {wh : Wh} {x : AV} {u : Value} (hx : Rep w g wh x u) {kk : KK} {k : TypeId} {d : TypeDesc} (hu : P.underlying k = some d) (hd : keyDesc kk d) (hk : isKey kk x = true) (e : Bool) (n : Nat) :
    (Instr.checkKey e (n + 1) k u).run P w = .ok () w := by
  unfold Instr.checkKey
  cases kk <;> cases d <;> simp [keyDesc] at hd <;> cases x <;> simp [isKey] at hk <;> cases hx <;> simp [run_underlying hu]

theorem mapEs_sound {w : World} {g : Gh} {h : H} (hH : HR w g h) {wh : Wh} {x : AV} {v : Value} (hr : Rep w g wh x v) {es : List (AV × AV)} (he : mapEs h x = some es) :
    (v = .map none ∧ es = []) ∨ ∃ b ms clock, v = .map (some b) ∧ w.heap[b]? = some (.map ms clock) ∧ ms.size = es.length ∧ ∀ (j : Nat) e m, es[j]? = some e → ms[j]? = some m → Rep w g wh0 e.1 m.key ∧ Rep w g wh0 e.2 m.val := by
  cases hr <;> simp [mapEs] at he
  · exact .inl ⟨rfl, he⟩
  · rename_i id b ho
    split at he
    · rename_i es' hid
      cases he
      cases hH.obj id _ hid ⟨_, ho⟩ with
      | @map _ b' ms clock ho' hb hs hst hc =>
        obtain rfl := hH.inj _ _ _ ho ho'
        exact .inr ⟨b, ms, clock, rfl, hb, hs, hc⟩
    · cases he

theorem lookup_sound {w : World} {g : Gh} {h : H} (hH : HR w g h) {wh wi : Wh} {x ix : AV} {v vi : Value} (hr : Rep w g wh x v) (hi : Rep w g wi ix vi) {t : TypeId} {ok : Bool} {r : AV} (he : lookup P t h x ix ok = some r) :
    ∃ u, (Instr.lookup t v vi ok).run P w = .ok u w ∧ Rep w g wh0 r u := by
  have two : ∀ {a : AV} {u : Value} {b : Bool}, Rep w g wh0 a u → Rep w g wh0 (if ok then .tuple [a, .bool b] else a) (if ok then .tuple #[u, .bool b] else u) := by
    intro a u b h
    cases ok
    · exact h
    refine .tuple rfl fun i x v hx hv => ?_
    match i with
    | 0 => simp at hx hv; subst hx hv; exact h
    | 1 => simp at hx hv; subst hx hv; exact .bool
    | i + 2 => simp at hx
  unfold lookup at he
  split at he
  · rename_i k e hu
    split at he
    · rename_i z kk hz hkt
      obtain ⟨zv, hzr, _, hz0, _⟩ := zero_sound (P := P) (w := w) (g := g) (wh := wh0) hz
      obtain ⟨d, hd, hdd⟩ := keyKind_und hkt
      unfold lkMap at he
      split at he
      · rename_i hkey
        simp only [Option.bind_eq_some_iff, Option.some.injEq] at he
        obtain ⟨es, hes, r', hf, he⟩ := he
        have hck := fun e => run_checkKey' (P := P) hi hd hdd hkey e 9999
        have fin : ∀ (ms : Array MapEntry), ms.size = es.length → (∀ (j : Nat) e m, es[j]? = some e → ms[j]? = some m → Rep w g wh0 e.1 m.key ∧ Rep w g wh0 e.2 m.val) →
            ∃ f u o, (Instr.findKey k vi ms.toList).run P w = .ok f w ∧ (f = none ∧ u = zv ∧ o = false ∨ (∃ i, f = some (i, u)) ∧ o = true) ∧ Rep w g wh0 r (if ok then .tuple #[u, .bool o] else u) := by
          intro ms hs hc
          rcases findKey_sound hi hdd hkey es ms.toList 0 r' (by simpa using hs) (fun j e m h1 h2 => hc j e m h1 (by simpa using h2)) hf with ⟨rfl, h2⟩ | ⟨j, m, rfl, h2, h3⟩
          · refine ⟨_, zv, false, MapKept.run_findKey (P := P) (w := w) (kt := k) hd h2, .inl ⟨rfl, rfl, rfl⟩, ?_⟩
            subst he
            exact two hz0
          · refine ⟨_, m.val, true, MapKept.run_findKey (P := P) (w := w) (kt := k) hd h3, .inr ⟨⟨_, rfl⟩, rfl⟩, ?_⟩
            subst he
            have hjl : j < ms.size := by have := (List.getElem?_eq_some_iff.1 h2).1; simpa using this
            have hje : es[j]? = some es[j] := by simp [show j < es.length by omega]
            have := (hc j es[j] m hje (by simpa using h2)).2
            simp only [Nat.zero_add, hje, Option.map_some, Option.getD_some, Option.isSome_some]
            exact two this
        rcases mapEs_sound hH hr hes with ⟨rfl, rfl⟩ | ⟨b, ms, clock, rfl, hb, hs, hc⟩
        · obtain ⟨f, u, o, h1, h2, h3⟩ := fin #[] rfl (by simp)
          refine ⟨_, ?_, h3⟩
          rcases h2 with ⟨rfl, rfl, rfl⟩ | ⟨⟨i, rfl⟩, rfl⟩ <;> simp [Instr.lookup, run_underlying hu, hck, h1, hzr]
        · obtain ⟨f, u, o, h1, h2, h3⟩ := fin ms hs hc
          refine ⟨_, ?_, h3⟩
          rcases h2 with ⟨rfl, rfl, rfl⟩ | ⟨⟨i, rfl⟩, rfl⟩ <;> simp [Instr.lookup, run_underlying hu, hck, h1, hzr, MapKept.run_getObj_map hb]
      · cases he
    · cases he
  · cases he


theorem maxMin_sound {w : World} {g : Gh} {m : Bool} {x y r : AV} {u v : Value} (hx : Rep w g wh0 x u) (hy : Rep w g wh0 y v) (he : maxMin m x y = some r) :
    ∃ z, ((if m then Builtin.max2 else Builtin.min2) u v).run P w = .ok z w ∧ Rep w g wh0 r z := by
  unfold maxMin at he
  split at he
  · cases hx; cases hy; cases he
    cases m
    · exact ⟨_, by simp [Builtin.min2], .int⟩
    · exact ⟨_, by simp [Builtin.max2], .int⟩
  · cases he

theorem maxMinAll_sound {w : World} {g : Gh} {m : Bool} : ∀ (xs : List AV) (us : List Value) (x : AV) (u : Value) (r : AV), us.length = xs.length → Rep w g wh0 x u → (∀ (j : Nat) c z, xs[j]? = some c → us[j]? = some z → Rep w g wh0 c z) →
    xs.foldlM (maxMin m) x = some r → ∃ z, (us.foldlM (if m then Builtin.max2 else Builtin.min2) u).run P w = .ok z w ∧ Rep w g wh0 r z := by
  intro xs
  induction xs with
  | nil =>
    intro us x u r hl hx _ he
    cases us with
    | nil => simp at he; subst he; exact ⟨u, rfl, hx⟩
    | cons => simp at hl
  | cons y ys ih =>
    intro us x u r hl hx hc he
    cases us with
    | nil => simp at hl
    | cons z zs =>
      simp only [List.foldlM_cons, Option.bind_eq_bind, Option.bind_eq_some_iff] at he
      obtain ⟨a, ha, he⟩ := he
      obtain ⟨b, h1, h2⟩ := maxMin_sound (P := P) hx (hc 0 y z rfl rfl) ha
      obtain ⟨c, h3, h4⟩ := ih zs a b r (by simpa using hl) h2 (fun j c' z' h5 h6 => hc (j + 1) c' z' (by simpa using h5) (by simpa using h6)) he
      exact ⟨c, by simp only [List.foldlM_cons, Sem.run_bind, h1, Result.andThen_ok, h3], h4⟩

theorem fold_set (off : Nat) : ∀ (l : List Value) (k : Nat) (cs : Array Value), ((l.zipIdx k).foldl (fun (cs : Array Value) (p : Value × Nat) => cs.setIfInBounds (off + p.2) p.1) cs).size = cs.size ∧
    ∀ j, ((l.zipIdx k).foldl (fun (cs : Array Value) (p : Value × Nat) => cs.setIfInBounds (off + p.2) p.1) cs)[j]? = if off + k ≤ j ∧ j < off + k + l.length ∧ j < cs.size then l[j - (off + k)]? else cs[j]?
  | [], k, cs => by
    refine ⟨rfl, fun j => ?_⟩
    simp only [List.zipIdx_nil, List.foldl_nil, List.length_nil, Nat.add_zero]
    rw [if_neg (by omega)]
  | v :: l, k, cs => by
    have ih := fold_set off l (k + 1) (cs.setIfInBounds (off + k) v)
    simp only [List.zipIdx_cons, List.foldl_cons]
    refine ⟨by rw [ih.1]; simp, fun j => ?_⟩
    rw [ih.2 j]
    simp only [Array.size_setIfInBounds, List.length_cons]
    by_cases h1 : j = off + k
    · subst h1
      rw [if_neg (by omega)]
      by_cases h2 : off + k < cs.size
      · rw [if_pos (by omega)]; simp [h2]
      · rw [if_neg (by omega)]; simp [h2]
    · by_cases h2 : off + (k + 1) ≤ j ∧ j < off + (k + 1) + l.length ∧ j < cs.size
      · rw [if_pos h2, if_pos (by omega)]
        rw [show j - (off + k) = (j - (off + (k + 1))) + 1 by omega]
        simp
      · rw [if_neg h2, if_neg (by omega)]
        simp [Array.getElem?_setIfInBounds, Ne.symm h1]

/-- Parts laid into cells. -/
theorem fold_fill (P : Program) {w : World} {g : Gh} (place : Nat → Option (Nat × Nat)) : ∀ (parts : List (Nat × Nat × AV)) (vals : List (Nat × Value)) (z : List AV) (zs : Array Value) (r : List AV), vals.length = parts.length → zs.size = z.length →
    (∀ (j : Nat) c u, z[j]? = some c → zs[j]? = some u → Rep w g wh0 c u) →
    (∀ (j : Nat) p v, parts[j]? = some p → vals[j]? = some v → place v.1 = some (p.1, p.2.1) ∧ Rep w g wh0 p.2.2 v.2) →
    parts.foldlM (fun cells p => if p.2.2.cells.length = p.2.1 ∧ p.2.2.cells.all AV.one = true ∧ p.1 + p.2.1 ≤ cells.length then some (cells.take p.1 ++ p.2.2.cells ++ cells.drop (p.1 + p.2.1)) else none) z = some r →
    ∃ rs : Array Value, Instr.fill place zs vals = some rs ∧ rs.size = r.length ∧ ∀ (j : Nat) c u, r[j]? = some c → rs[j]? = some u → Rep w g wh0 c u := by
  intro parts
  induction parts with
  | nil =>
    intro vals z zs r hl hs hc _ he
    cases vals with
    | nil => simp at he; subst he; exact ⟨zs, rfl, hs, hc⟩
    | cons => simp at hl
  | cons p ps ih =>
    intro vals z zs r hl hs hc hp he
    cases vals with
    | nil => simp at hl
    | cons v vs =>
      simp only [List.foldlM_cons, Option.bind_eq_bind, Option.bind_eq_some_iff] at he
      obtain ⟨z', hz', he⟩ := he
      split at hz'
      · rename_i hcnd
        cases hz'
        obtain ⟨h1, h2⟩ := hp 0 p v rfl rfl
        have hcl := h2.cells hcnd.2.1
        have h3 := hcl.1.symm
        have h4 : ∀ (i : Nat) c u, p.2.2.cells[i]? = some c → v.2.cells[i]? = some u → Rep w g wh0 c u := fun i c u a b => (hcl.2 i c u a b).2.weak
        have hf := fold_set p.1 v.2.cells.toList 0 zs
        generalize hR : ((v.2.cells.toList.zipIdx 0).foldl (fun (cs : Array Value) (q : Value × Nat) => cs.setIfInBounds (p.1 + q.2) q.1) zs) = R at hf
        have hl2 : v.2.cells.toList.length = p.2.1 := by rw [Array.length_toList]; omega
        have hRc : ∀ (j : Nat) c u, (z.take p.1 ++ p.2.2.cells ++ z.drop (p.1 + p.2.1))[j]? = some c → R[j]? = some u → Rep w g wh0 c u := by
          intro j c u hj hu
          rw [hf.2 j] at hu
          by_cases hin : p.1 + 0 ≤ j ∧ j < p.1 + 0 + v.2.cells.toList.length ∧ j < zs.size
          · rw [if_pos hin] at hu
            rw [List.append_assoc, List.getElem?_append_right (by simp; omega)] at hj
            rw [List.getElem?_append_left (by simp; omega)] at hj
            have e : min p.1 z.length = p.1 := by omega
            simp only [List.length_take, e, Nat.add_zero, Array.getElem?_toList] at hj hu
            exact h4 _ c u hj hu
          · rw [if_neg hin] at hu
            by_cases hlt : j < p.1
            · rw [List.append_assoc, List.getElem?_append_left (by simp; omega), List.getElem?_take, if_pos hlt] at hj
              exact hc j c u hj hu
            · have hjl := (Array.getElem?_eq_some_iff.1 hu).1
              rw [List.getElem?_append_right (by simp; omega)] at hj
              simp only [List.length_append, List.length_take, List.getElem?_drop] at hj
              rw [show p.1 + p.2.1 + (j - (min p.1 z.length + p.2.2.cells.length)) = j by omega] at hj
              exact hc j c u hj hu
        obtain ⟨rs, r1, r2, r3⟩ := ih vs _ R r (by simpa using hl) (by rw [hf.1, hs]; simp; omega) hRc (fun j p' v' h5 h6 => hp (j + 1) p' v' (by simpa using h5) (by simpa using h6)) he
        refine ⟨rs, ?_, r2, r3⟩
        have hz : v.2.cells.zipIdx.foldl (fun cs (q : Value × Nat) => cs.setIfInBounds (p.1 + q.2) q.1) zs = R := by
          rw [← hR, ← Array.foldl_toList]
          simp [Array.toList_zipIdx]
        unfold Instr.fill
        simp only [h1]
        rw [if_neg (by simp; omega)]
        exact (congrArg (fun a => Instr.fill place a vs) hz).trans r1
      · cases hz'

end
end Go.Ve

/- VE: structs built; all operations that only read, together. -/
namespace Go.Ve
open Go

section
variable {P : Program}

theorem run_mapM_list {α β : Type} {w : World} (f : α → Sem β) (k : α → β) : ∀ (l : List α), (∀ a ∈ l, (f a).run P w = .ok (k a) w) → (l.mapM f).run P w = .ok (l.map k) w
  | [], _ => by simp
  | a :: l, h => by
    have ih := run_mapM_list f k l (fun b hb => h b (by simp [hb]))
    simp [h a (by simp), ih]
theorem run_mapM_array {α β : Type} {w : World} (f : α → Sem β) (k : α → β) (l : Array α) (h : ∀ a ∈ l, (f a).run P w = .ok (k a) w) : (l.mapM f).run P w = .ok (l.map k) w := by
  rw [Array.mapM_eq_mapM_toList, Sem.run_map, run_mapM_list f k l.toList (fun a ha => h a (by simpa using ha))]
  simp only [Result.andThen_ok]
  congr 1
  apply Array.ext'
  simp

theorem build_sound {w : World} {g : Gh} {t : TypeId} {ps : List (Nat × AV)} {vs : List (Nat × Value)} (hl : vs.length = ps.length) (hp : ∀ (j : Nat) p v, ps[j]? = some p → vs[j]? = some v → p.1 = v.1 ∧ Rep w g wh0 p.2 v.2) {r : AV} (he : build P t ps = some r) :
    ∃ u, (Instr.build t vs.toArray).run P w = .ok u w ∧ Rep w g wh0 r u := by
  have main : ∀ (z : AV) (zv : Value) (place : Nat → Option (Nat × Nat)) (parts : List (Nat × Nat × AV)), Rep w g wh0 z zv → z.cells.all AV.one = true → parts.length = ps.length →
      (∀ (j : Nat) p q, ps[j]? = some p → parts[j]? = some q → q.2.2 = p.2 ∧ place p.1 = some (q.1, q.2.1)) → mkAgg z.cells parts = some r →
      ∃ rs, Instr.fill place zv.cells vs = some rs ∧ Rep w g wh0 r (.agg rs) := by
    intro z zv place parts hz ho hlp hpp hm
    simp only [mkAgg, Option.map_eq_some_iff] at hm
    obtain ⟨rc, hm, rfl⟩ := hm
    have hzc := hz.cells ho
    obtain ⟨rs, h1, h2, h3⟩ := fold_fill P place parts vs z.cells zv.cells rc (by omega) hzc.1 (fun j c u a b => (hzc.2 j c u a b).2.weak) (fun j q v hq hv => by
      have hjl : j < ps.length := by have := (List.getElem?_eq_some_iff.1 hq).1; omega
      have hps : ps[j]? = some ps[j] := by simp [hjl]
      obtain ⟨h4, h5⟩ := hpp j _ q hps hq
      obtain ⟨h6, h7⟩ := hp j _ v hps hv
      exact ⟨by rw [← h6]; exact h5, by rw [h4]; exact h7⟩) hm
    exact ⟨rs, h1, .agg (by omega) h3⟩
  unfold build at he
  split at he
  · rename_i z fs hz hu
    split at he
    · rename_i hc
      obtain ⟨zv, hzr, _, hz0, _⟩ := zero_sound (P := P) (w := w) (g := g) (wh := wh0) hz
      simp only [Bool.and_eq_true, List.all_eq_true] at hc
      obtain ⟨⟨hc1, hc2⟩, hc3⟩ := hc
      have hmp := run_mapM_array (P := P) (w := w) (fun f : Field => (do pure (f.offset, ← sizeOf f.type) : Sem (Nat × Nat))) (fun f => (f.offset, P.cellsOf f.type)) fs (fun f hf => by
        have : (P.info? f.type).isSome := by
          have := Array.all_eq_true'.1 hc2 f hf
          exact this
        simp [run_sizeOf' this])
      obtain ⟨rs, h1, h2⟩ := main z zv (fun i => (fs.map fun f => (f.offset, P.cellsOf f.type))[i]?) _ hz0 (List.all_eq_true.2 hc1) (by simp) (fun j p q hpj hq => by
        simp only [List.getElem?_map, hpj, Option.map_some, Option.some.injEq] at hq
        subst hq
        have hlt : p.1 < fs.size := by
          have := hc3 p (List.mem_of_getElem? hpj)
          simpa using this
        simp [hlt]) he
      refine ⟨.agg rs, ?_, h2⟩
      simp only [Instr.build, Sem.run_bind, hzr, Result.andThen_ok, run_underlying hu, hmp]
      simp only [h1]
      rfl
    · cases he
  · rename_i z n e hz hu
    split at he
    · rename_i hc
      obtain ⟨zv, hzr, _, hz0, _⟩ := zero_sound (P := P) (w := w) (g := g) (wh := wh0) hz
      simp only [Bool.and_eq_true] at hc
      obtain ⟨rs, h1, h2⟩ := main z zv (fun i => some (i * P.cellsOf e, P.cellsOf e)) _ hz0 hc.1 (by simp) (fun j p q hpj hq => by
        simp only [List.getElem?_map, hpj, Option.map_some, Option.some.injEq] at hq
        subst hq
        exact ⟨rfl, rfl⟩) he
      refine ⟨.agg rs, ?_, h2⟩
      simp only [Instr.build, Sem.run_bind, hzr, Result.andThen_ok, run_underlying hu, run_sizeOf' hc.2]
      simp only [h1]
      rfl
    · cases he
  · cases he


theorem convert_sound {w : World} {g : Gh} {h : H} (hH : HR w g h) {wh : Wh} {x : AV} {v : Value} (hr : Rep w g wh x v) {src dst : TypeId} {r : AV} (he : convert P src dst h x = some r)
    (hq : ¬ ∃ e, P.underlying src = some .string ∧ P.underlying dst = some (.slice e)) :
    ∃ u, (Go.convert src dst v).run P w = .ok u w ∧ Rep w g wh0 r u := by
  unfold convert at he
  split at he
  · rename_i k1 k hs hd
    unfold cvInt at he
    split at he
    · cases hr; cases he
      exact ⟨_, by simp [Go.convert, run_underlying hs, run_underlying hd, Conv.intToInt], .int⟩
    · cases he
  · rename_i hs hd
    unfold cvStr at he
    split at he
    · cases hr; cases he
      exact ⟨_, by simp [Go.convert, run_underlying hs, run_underlying hd], .str⟩
    · cases he
  · rename_i e hs hd
    exact absurd ⟨e, hs, hd⟩ hq
  · rename_i e hs hd
    split at he
    · rename_i hb
      simp only [Bool.and_eq_true, beq_iff_eq] at hb
      obtain ⟨u, h1, h2⟩ := bytesStr_sound (P := P) hH hr he
      refine ⟨u, ?_, h2⟩
      have heu : P.underlying e = some (.int .u8) := by
        have := hb.1
        unfold isByte at this
        split at this
        · assumption
        · cases this
      rw [← h1]
      cases x with
      | list rows o => cases hr; simp [Go.convert, run_underlying hs, run_underlying hd, run_underlying heu]
      | slc id off len s => cases hr; simp [Go.convert, run_underlying hs, run_underlying hd, run_underlying heu]
      | _ => simp [bytesStr] at he
    · cases he
  · cases he

/-- The operations that only read. -/
def reads (A : FAnn) (r i : Nat) : Op → Bool
  | .pick _ _ _ | .build _ _ | .nilCheck _ | .binOp _ _ _ _ _ | .unOp _ _ _ | .slice _ _ _ _ _ | .fieldAddr _ _ _ | .field _ _ _ | .indexAddr _ _ _ | .index _ _ _ | .lookup _ _ _ _ | .typeAssert _ _ _ _ => true
  | .convert _ _ _ => true
  | .load _ _ => !A.ld.contains (r, i)
  | .call { callee := .builtin .len, .. } | .call { callee := .builtin .max, .. } | .call { callee := .builtin .min, .. } => true
  | _ => false

theorem map_get {a : Act} {fr : List (Nat × AV)} {w : World} {g : Gh} (hF : ∀ x : Operand, Rep w g wh0 (vOf fr x) (a.eval x)) {x : Option Operand} : (∀ y, x.map (vOf fr) = some y → ∃ v, x.map a.eval = some v ∧ ∃ wh, Rep w g wh y v) ∧ (x.map (vOf fr) = none → x.map a.eval = none) := by
  cases x with
  | none => simp
  | some x => exact ⟨fun y hy => by simp at hy; subst hy; exact ⟨_, rfl, wh0, hF x⟩, by simp⟩

theorem reads_sound {A : FAnn} {r i : Nat} {a : Act} {fr : List (Nat × AV)} {ob : List (Nat × Nat)} {w : World} {g : Gh} {h : H} (hH : HR w g h) (hF : ∀ x : Operand, Rep w g wh0 (vOf fr x) (a.eval x)) {o : Oper} {v : AV}
    (hk : reads A r i o.op = true) (hq : ∀ src dst x, o.op = .convert src dst x → ¬ ∃ e, P.underlying src = some .string ∧ P.underlying dst = some (.slice e)) (he : valOp P A r i fr ob h o.op = some v) :
    ∃ u, (execOp a.eval o).run P w = .ok (.value u) w ∧ Rep w g wh0 v u := by
  have lift : ∀ {s : Sem Value} {u : Value}, (execOp a.eval o = (do pure (.value (← s)) : Sem Next)) → s.run P w = .ok u w → (execOp a.eval o).run P w = .ok (.value u) w := by
    intro s u h1 h2; rw [h1]; simp [h2]
  have hex : ∀ (op : Op), o.op = op → execOp a.eval o = execOp a.eval { o with op := op } := by
    rintro op rfl; rfl
  cases ho : o.op <;> rw [ho] at hk he <;> simp only [reads, Bool.false_eq_true] at hk
  case pick c x y =>
    simp only [valOp, pickV] at he
    have hc := hF c
    split at he
    · rename_i t hct
      rw [hct] at hc
      generalize hu : a.eval c = uc at hc
      cases hc
      cases he
      refine ⟨if t then a.eval x else a.eval y, by simp [execOp, ho, hu, asBool], ?_⟩
      cases t
      · exact hF y
      · exact hF x
    · cases he
  case build t parts =>
    simp only [valOp] at he
    obtain ⟨u, h1, h2⟩ := build_sound (P := P) (w := w) (g := g) (vs := (parts.map fun (p : Nat × Operand) => (p.1, a.eval p.2)).toList) (by simp) (fun j p q hp hv => by
      simp only [List.getElem?_map, Array.toList_map, Array.getElem?_toList, Option.map_eq_some_iff] at hp hv
      obtain ⟨x, hx, rfl⟩ := hp
      obtain ⟨y, hy, rfl⟩ := hv
      rw [hx] at hy
      cases hy
      exact ⟨rfl, (hF x.2).copy⟩) he
    refine ⟨u, lift (s := Instr.build t (parts.map fun (p : Nat × Operand) => (p.1, a.eval p.2))) (by simp [execOp, ho]) ?_, h2⟩
    have e : ((parts.map fun (p : Nat × Operand) => (p.1, a.eval p.2)).toList).toArray = parts.map fun (p : Nat × Operand) => (p.1, a.eval p.2) := Array.ext' rfl
    rw [e] at h1
    exact h1
  case load t x =>
    simp only [valOp] at he
    obtain ⟨u, h1, h2⟩ := load_sound (P := P) hH (hF x) he
    exact ⟨u, lift (by simp [execOp, ho]) h1, h2⟩
  case nilCheck x =>
    simp only [valOp] at he
    obtain ⟨h1, h2⟩ := nilOk_sound (P := P) (hF x) he o a.eval x ho rfl
    exact ⟨_, h1, h2⟩
  case binOp op t x y yt =>
    simp only [valOp] at he
    obtain ⟨u, h1, h2⟩ := binOp_sound (P := P) (hF x) (hF y) (xo := x) (yo := y) (nilR := isNilO y) (fun hn => by
      unfold isNilO at hn
      split at hn
      · rfl
      · cases hn) he
    exact ⟨u, lift (by simp [execOp, ho]) h1, h2⟩
  case unOp op t x =>
    simp only [valOp] at he
    obtain ⟨u, h1, h2⟩ := unOp_sound (P := P) (hF x) he
    exact ⟨u, lift (by simp [execOp, ho]) h1, h2⟩
  case convert src dst x =>
    simp only [valOp] at he
    obtain ⟨u, h1, h2⟩ := convert_sound (P := P) hH (hF x) he (hq _ _ _ ho)
    exact ⟨u, lift (by simp [execOp, ho]) h1, h2⟩
  case slice t x lo hi mx =>
    simp only [valOp, slice] at he
    split at he
    · rename_i hu
      split at he
      · rename_i hm
        have hmn : mx = none := by cases mx <;> simp_all
        subst hmn
        obtain ⟨u, h1, h2⟩ := slice_str_sound (P := P) (hF x) hu (ol := lo.map a.eval) (oh := hi.map a.eval) (map_get hF).1 (map_get hF).2 (map_get hF).1 (map_get hF).2 he
        refine ⟨u, lift (s := Instr.sliceAt t (a.eval x) (lo.map a.eval) (hi.map a.eval) none) (by simp [execOp, ho]) ?_, h2⟩
        simp only [Instr.sliceAt, Sem.run_bind, run_underlying hu, Result.andThen_ok]
        exact h1
      · cases he
    · rename_i e hu
      split at he
      · rename_i hie
        obtain ⟨u, h1, h2⟩ := slice_slice_sound (P := P) (hF x) hu hie (ol := lo.map a.eval) (oh := hi.map a.eval) (om := mx.map a.eval) (map_get hF).1 (map_get hF).2 (map_get hF).1 (map_get hF).2 (map_get hF).1 (map_get hF).2 he
        refine ⟨u, lift (s := Instr.sliceAt t (a.eval x) (lo.map a.eval) (hi.map a.eval) (mx.map a.eval)) (by simp [execOp, ho]) ?_, h2⟩
        simp only [Instr.sliceAt, Sem.run_bind, run_underlying hu, Result.andThen_ok]
        exact h1
      · cases he
    · cases he
  case fieldAddr t x f =>
    simp only [valOp] at he
    obtain ⟨u, h1, h2⟩ := fieldAddr_sound (P := P) (hF x) he
    exact ⟨u, lift (by simp [execOp, ho]) h1, h2⟩
  case field t x f =>
    simp only [valOp] at he
    obtain ⟨u, h1, h2⟩ := field_sound (P := P) (hF x) he
    exact ⟨u, lift (by simp [execOp, ho]) h1, h2⟩
  case indexAddr t x ix =>
    simp only [valOp] at he
    obtain ⟨u, h1, h2⟩ := indexAddr_sound (P := P) (hF x) (hF ix) he
    exact ⟨u, lift (by simp [execOp, ho]) h1, h2⟩
  case index t x ix =>
    simp only [valOp] at he
    obtain ⟨u, h1, h2⟩ := index_sound (P := P) (hF x) (hF ix) he
    exact ⟨u, lift (by simp [execOp, ho]) h1, h2⟩
  case lookup t x ix ok =>
    simp only [valOp] at he
    obtain ⟨u, h1, h2⟩ := lookup_sound (P := P) hH (hF x) (hF ix) he
    exact ⟨u, lift (by simp [execOp, ho]) h1, h2⟩
  case typeAssert x xt t ok =>
    simp only [valOp] at he
    obtain ⟨u, h1, h2⟩ := typeAssert_sound (P := P) (hF x) he xt
    exact ⟨u, lift (by simp [execOp, ho]) h1, h2⟩
  case call c =>
    obtain ⟨callee, args, argTypes⟩ := c
    have hcall : ∀ b, callee = .builtin b → ∃ cs, execOp a.eval o = builtin b argTypes o.type cs (args.map a.eval) := by
      rintro b rfl; exact ⟨_, by simp [execOp, ho, resolve, invoke]; rfl⟩
    cases callee with
    | value f => simp at hk
    | invoke r m => simp at hk
    | builtin b =>
      cases b <;> simp only [Bool.false_eq_true] at hk
      case len =>
        simp only [valOp] at he
        split at he
        · rename_i x t hx ht
          obtain ⟨u, h1, h2⟩ := alen_sound (P := P) hH (hF x) he o.type
          have ha : args.map a.eval = #[a.eval x] := by
            have : args = #[x] := by rw [← Array.toList_inj]; exact hx
            simp [this]
          have hb : argTypes = #[t] := by rw [← Array.toList_inj]; exact ht
          refine ⟨u, ?_, h2⟩
          obtain ⟨cs, hcs⟩ := hcall _ rfl
          rw [hcs, ha, hb]
          simp [builtin, h1]
        · cases he
      all_goals
        simp only [valOp] at he
        obtain ⟨cs, hcs⟩ := hcall _ rfl
        cases hl : args.toList with
        | nil => rw [hl] at he; simp [maxMinAll] at he
        | cons x xs =>
          rw [hl] at he
          simp only [List.map_cons, maxMinAll] at he
          obtain ⟨u, h1, h2⟩ := maxMinAll_sound (P := P) (xs.map (vOf fr)) (xs.map a.eval) _ _ v (by simp) (hF x) (fun j c z hj hz => by
            simp only [List.getElem?_map, Option.map_eq_some_iff] at hj hz
            obtain ⟨y, hy, rfl⟩ := hj
            obtain ⟨y', hy', rfl⟩ := hz
            rw [hy] at hy'
            cases hy'
            exact hF y) he
          refine ⟨u, ?_, h2⟩
          rw [hcs]
          have ha : (args.map a.eval).toList = a.eval x :: xs.map a.eval := by simp [hl]
          simp at h1
          simp [builtin, Builtin.max_, Builtin.min_, hl, h1]

end
end Go.Ve

/- VE: the operations that make and write memory. -/
namespace Go.Ve
open Go

/-- From one world to a later one: what is nobody's here stays; what stays has stayed. -/
structure Ev (w : World) (g : Gh) (w' : World) (g' : Gh) : Prop where
  size : w.heap.size ≤ w'.heap.size
  st : ∀ b k, g.st b k → g'.st b k ∧ w'.cell? ⟨b, k, none⟩ = w.cell? ⟨b, k, none⟩
  obj : ∀ b id, g.own b = some (.obj id) → g'.own b = some (.obj id)
  old : ∀ b, b < w.heap.size → g.own b = none → g'.own b = none ∧ w'.heap[b]? = w.heap[b]? ∧ ∀ k, g'.st b k → g.st b k
  os : (w'.os, w'.tape) = (w.os, w.tape)
  out : w'.output = w.output
  rsv : ∀ id, g.rsv id → g'.rsv id

theorem Ev.mono {w : World} {g : Gh} {w' : World} {g' : Gh} (e : Ev w g w' g') : Mono w g w' g' := ⟨e.st, e.obj⟩
theorem Ev.refl (w : World) (g : Gh) : Ev w g w g := ⟨Nat.le_refl _, fun _ _ h => ⟨h, rfl⟩, fun _ _ h => h, fun _ _ h => ⟨h, rfl, fun _ h => h⟩, rfl, rfl, fun _ h => h⟩
theorem Ev.trans {w : World} {g : Gh} {w1 : World} {g1 : Gh} {w2 : World} {g2 : Gh} (e : Ev w g w1 g1) (f : Ev w1 g1 w2 g2) : Ev w g w2 g2 where
  size := Nat.le_trans e.size f.size
  st b k h := ⟨(f.st b k (e.st b k h).1).1, (f.st b k (e.st b k h).1).2.trans (e.st b k h).2⟩
  obj b id h := f.obj b id (e.obj b id h)
  old b hb h := by
    obtain ⟨h1, h2, h3⟩ := e.old b hb h
    obtain ⟨h4, h5, h6⟩ := f.old b (Nat.lt_of_lt_of_le hb e.size) h1
    exact ⟨h4, h5.trans h2, fun k hk => h3 k (h6 k hk)⟩
  os := f.os.trans e.os
  out := f.out.trans e.out
  rsv id h := f.rsv id (e.rsv id h)

def whT (ob : List (Nat × Nat)) (t : Nat) : Wh := fun p c => if (getM t ob).testBit p then some (.tmp t p c) else none
def FR (w : World) (g : Gh) (fr : List (Nat × AV)) (ob : List (Nat × Nat)) (tmps : Array Value) : Prop := ∀ t, Rep w g (whT ob t) (getV t fr) (tmps.getD t undef)
def whD (m : Nat) (d : Option Tmp) : Wh := fun p c => match d with
  | some d => if m.testBit p then some (.tmp d p c) else none
  | none => none

theorem FR.eval {w : World} {g : Gh} {fr : List (Nat × AV)} {ob : List (Nat × Nat)} {a : Act} (h : FR w g fr ob a.tmps) (x : Operand) : Rep w g wh0 (vOf fr x) (a.eval x) := by
  cases x with
  | tmp t => exact (h t).weak
  | const v => exact ofVal_rep v
  | global g => exact .undef
  | func f => exact .func rfl rfl (by simp) (by simp)

theorem beq_no {a b : Nat} (h : a ≠ b) : Nat.beq a b = false := by
  cases h' : Nat.beq a b with
  | false => rfl
  | true => exact absurd (Nat.eq_of_beq_eq_true h') h
theorem blt_yes {a b : Nat} (h : a < b) : Nat.blt a b = true := Nat.ble_eq_true_of_le h
theorem blt_no {a b : Nat} (h : ¬ a < b) : Nat.blt a b = false := by
  cases h' : Nat.blt a b with
  | false => rfl
  | true => exact absurd (Nat.le_of_ble_eq_true h') h

theorem FR.put {w : World} {g : Gh} {fr : List (Nat × AV)} {ob : List (Nat × Nat)} {a : Act} {nt m : Nat} {d : Option Tmp} {v : AV} {u : Value} (h : FR w g fr ob a.tmps) (hn : nt ≤ a.tmps.size) (hr : Rep w g (whD m d) v u) :
    FR w g (putV nt d v fr) (putM d m ob) (a.put d u).tmps := by
  cases d with
  | none => exact h
  | some d =>
    intro t
    by_cases ht : t = d
    · subst ht
      by_cases hlt : t < nt
      · have : (a.put (some t) u).tmps.getD t undef = u := by simp [Act.put, Array.getD_eq_getD_getElem?, show t < a.tmps.size by omega]
        rw [this]
        have e1 : getV t (putV nt (some t) v fr) = v := by simp [putV, blt_yes hlt, getV]
        have e2 : whT (putM (some t) m ob) t = whD m (some t) := by funext p c; simp [whT, putM, getM, whD]
        rw [e1, e2]
        exact hr
      · have e1 : getV t (putV nt (some t) v fr) = .undef := by simp [putV, blt_no hlt, getV]
        rw [e1]; exact .undef
    · have e1 : getV t (putV nt (some d) v fr) = getV t fr := by
        unfold putV
        simp only
        cases Nat.blt d nt <;> simp [getV, beq_no (Ne.symm ht)]
      have e2 : whT (putM (some d) m ob) t = whT ob t := by
        funext p c; simp [whT, putM, getM, beq_no (Ne.symm ht)]
      have e3 : (a.put (some d) u).tmps.getD t undef = a.tmps.getD t undef := by
        simp [Act.put, Array.getD_eq_getD_getElem?, Array.getElem?_setIfInBounds, Ne.symm ht]
      rw [e1, e2, e3]
      exact h t
theorem put_size {a : Act} {d : Option Tmp} {u : Value} : (a.put d u).tmps.size = a.tmps.size := by
  cases d <;> simp [Act.put]
theorem put_defers {a : Act} {d : Option Tmp} {u : Value} : (a.put d u).defers = a.defers := by
  cases d <;> simp [Act.put]

/-- All rooms that a frame's temporaries hold stay theirs. -/
theorem FR.mono {w : World} {g : Gh} {w' : World} {g' : Gh} {fr : List (Nat × AV)} {ob ob' : List (Nat × Nat)} {tmps : Array Value} (h : FR w g fr ob tmps) (m : Mono w g w' g')
    (hk : ∀ t p c, (getM t ob').testBit p = true → (getM t ob).testBit p = true ∧ Keeps w g w' g' (.tmp t p c) (.tmp t p c)) : FR w' g' fr ob' tmps := by
  intro t
  refine (h t).mono m ?_
  intro p c l' hl
  unfold whT at hl ⊢
  split at hl
  · rename_i hb
    cases hl
    obtain ⟨h1, h2⟩ := hk t p c hb
    exact ⟨_, by rw [if_pos h1], h2⟩
  · cases hl

theorem ObjRep.mono {w : World} {g : Gh} {w' : World} {g' : Gh} (m : Mono w g w' g') {id : Nat} {o : AObj} (h : ObjRep w g id o)
    (hb : ∀ b, g.own b = some (.obj id) → w'.heap[b]? = w.heap[b]? ∧ ∀ k, g'.st b k → g.st b k) (hk : ∀ j, Keeps w g w' g' (.cell id j) (.cell id j)) : ObjRep w' g' id o := by
  cases h with
  | @arr cells ro b cs ty fr ho h1 h2 h3 h4 =>
    obtain ⟨e1, e2⟩ := hb b ho
    refine .arr (m.obj _ _ ho) (e1.trans h1) h2 (fun j c v hj hv => ⟨(h3 j c v hj hv).1, (h3 j c v hj hv).2.mono m ?_⟩) (fun hro => ⟨fun k hk => (h4 hro).1 k (e2 k hk), fun k hk => (frozen_eq e1 k).trans ((h4 hro).2 k hk)⟩)
    intro p c l' hl
    cases hl
    exact ⟨_, rfl, hk j⟩
  | map ho h1 h2 h3 h4 =>
    obtain ⟨e1, e2⟩ := hb _ ho
    exact .map (m.obj _ _ ho) (e1.trans h1) h2 (fun k hk => h3 k (e2 k hk)) (fun j e mm hj hv => ⟨(h4 j e mm hj hv).1.mono m Moves.none, (h4 j e mm hj hv).2.mono m Moves.none⟩)
  | siter ho h1 h2 =>
    obtain ⟨e1, e2⟩ := hb _ ho
    exact .siter (m.obj _ _ ho) (e1.trans h1) (fun k hk => h2 k (e2 k hk))

/-- A new block: nobody's block has turned. -/
structure New (w : World) (g : Gh) (o : Obj) (x : Option Loc) (S : Nat → Prop) (w' : World) (g' : Gh) : Prop where
  heap : w'.heap = w.heap.push o
  own : g'.own = fun b => if b = w.heap.size then x else g.own b
  st : g'.st = fun b k => if b = w.heap.size then S k else g.st b k
  os : (w'.os, w'.tape) = (w.os, w.tape)
  out : w'.output = w.output
  rsv : g'.rsv = g.rsv

def Gh.new (g : Gh) (n : Nat) (x : Option Loc) (S : Nat → Prop) : Gh := ⟨fun b => if b = n then x else g.own b, fun b k => if b = n then S k else g.st b k, g.rsv⟩

section
variable {w : World} {g : Gh} {o : Obj} {x : Option Loc} {S : Nat → Prop} {w' : World} {g' : Gh}

theorem New.at_new (n : New w g o x S w' g') : w'.heap[w.heap.size]? = some o := by rw [n.heap]; simp
theorem New.at_old (n : New w g o x S w' g') {b : Nat} (hb : b ≠ w.heap.size) : w'.heap[b]? = w.heap[b]? := by
  rw [n.heap, Array.getElem?_push, if_neg hb]
theorem New.ev (n : New w g o x S w' g') {h : H} (hH : HR w g h) : Ev w g w' g' where
  size := by rw [n.heap]; simp
  st b k hs := by
    have hb : b ≠ w.heap.size := Nat.ne_of_lt (hH.stlt b k hs)
    refine ⟨by rw [n.st]; simp [hb, hs], ?_⟩
    simp [World.cell?, n.at_old hb]
  obj b id ho := by
    have hb : b ≠ w.heap.size := Nat.ne_of_lt (hH.lt b _ ho)
    rw [n.own]; simp [hb, ho]
  old b hb ho := by
    have hb : b ≠ w.heap.size := Nat.ne_of_lt hb
    refine ⟨by rw [n.own]; simp [hb, ho], n.at_old hb, fun k hk => ?_⟩
    rw [n.st] at hk; simpa [hb] using hk
  os := n.os
  out := n.out
  rsv id h := by rw [n.rsv]; exact h
theorem New.keeps (n : New w g o x S w' g') {h : H} (hH : HR w g h) (l : Loc) : Keeps w g w' g' l l := by
  intro b ho
  have hb : b ≠ w.heap.size := Nat.ne_of_lt (hH.lt b _ ho)
  refine ⟨by rw [n.own]; simp [hb, ho], n.at_old hb, fun k hk => ?_⟩
  rw [n.st] at hk; simpa [hb] using hk
theorem New.moves (n : New w g o x S w' g') {h : H} (hH : HR w g h) (wh : Wh) : Moves w g w' g' wh wh := fun _ _ l hl => ⟨l, hl, n.keeps hH l⟩
theorem New.rep (n : New w g o x S w' g') {h : H} (hH : HR w g h) {wh : Wh} {y : AV} {v : Value} (hr : Rep w g wh y v) : Rep w' g' wh y v := hr.mono (n.ev hH).mono (n.moves hH wh)
theorem New.fr (n : New w g o x S w' g') {h : H} (hH : HR w g h) {fr : List (Nat × AV)} {ob : List (Nat × Nat)} {tmps : Array Value} (hF : FR w g fr ob tmps) : FR w' g' fr ob tmps :=
  hF.mono (n.ev hH).mono (fun t p c h => ⟨h, n.keeps hH _⟩)

theorem New.objs (n : New w g o x S w' g') {h : H} (hH : HR w g h) {id : Nat} {ob : AObj} (hob : ObjRep w g id ob) : ObjRep w' g' id ob :=
  hob.mono (n.ev hH).mono (fun b ho => by
    have hb : b ≠ w.heap.size := Nat.ne_of_lt (hH.lt b _ ho)
    exact ⟨n.at_old hb, fun k hk => by rw [n.st] at hk; simpa [hb] using hk⟩) (fun j => n.keeps hH _)

/-- A new block that is no object. -/
theorem New.hr (n : New w g o x S w' g') {h : H} (hH : HR w g h) (hx : ∀ id, x ≠ some (.obj id)) : HR w' g' h where
  obj id ob hid ht := n.objs hH (hH.obj id ob hid (by obtain ⟨b, hb⟩ := ht; rw [n.own] at hb; simp only at hb; split at hb; exact absurd hb (hx id); exact ⟨b, hb⟩))
  inj b b' id h1 h2 := by
    rw [n.own] at h1 h2
    simp only at h1 h2
    split at h1
    · exact absurd h1 (hx id)
    · split at h2
      · exact absurd h2 (hx id)
      · exact hH.inj b b' id h1 h2
  lt b l h1 := by
    rw [n.own] at h1
    rw [n.heap, Array.size_push]
    simp only at h1
    split at h1
    · omega
    · have := hH.lt b l h1; omega
  bd b id h1 := by
    rw [n.own] at h1
    simp only at h1
    split at h1
    · exact absurd h1 (hx id)
    · exact hH.bd b id h1
  stlt b k h0 := by
    have h1 : if b = w.heap.size then S k else g.st b k := by rw [n.st] at h0; exact h0
    rw [n.heap, Array.size_push]
    split at h1
    · omega
    · have := hH.stlt b k h1; omega
  rsv b id h1 := by
    rw [n.own] at h1
    rw [n.rsv]
    simp only at h1
    split at h1
    · exact absurd h1 (hx id)
    · exact hH.rsv b id h1
  rlt id h1 := by rw [n.rsv] at h1; exact hH.rlt id h1

/-- A new block that is the next object. -/
theorem New.hr_obj {i : Nat} (n : New w g o (some (.obj i)) S w' g') {h : H} (hi : i = h.length) (hH : HR w g h) {ob : AObj} (hob : ObjRep w' g' i ob) : HR w' g' (h ++ [ob]) where
  obj id o' hid ht := by
    rcases Nat.lt_trichotomy id h.length with hlt | heq | hgt
    · rw [List.getElem?_append_left hlt] at hid
      exact n.objs hH (hH.obj id o' hid (by
        obtain ⟨b, hb⟩ := ht
        rw [n.own] at hb
        simp only at hb
        split at hb
        · cases hb; omega
        · exact ⟨b, hb⟩))
    · subst heq
      simp at hid
      subst hid hi
      exact hob
    · rw [List.getElem?_eq_none (by simp; omega)] at hid
      cases hid
  inj b b' id h1 h2 := by
    rw [n.own] at h1 h2
    simp only at h1 h2
    split at h1
    · split at h2
      · omega
      · cases h1
        have := hH.bd b' _ h2
        omega
    · split at h2
      · cases h2
        have := hH.bd b _ h1
        omega
      · exact hH.inj b b' id h1 h2
  lt b l h1 := by
    rw [n.own] at h1
    rw [n.heap, Array.size_push]
    simp only at h1
    split at h1
    · omega
    · have := hH.lt b l h1; omega
  bd b id h1 := by
    rw [n.own] at h1
    simp only at h1
    split at h1
    · cases h1; simp; omega
    · have := hH.bd b id h1; simp; omega
  stlt b k h0 := by
    have h1 : if b = w.heap.size then S k else g.st b k := by rw [n.st] at h0; exact h0
    rw [n.heap, Array.size_push]
    split at h1
    · omega
    · have := hH.stlt b k h1; omega
  rsv b id h1 := by
    rw [n.own] at h1
    rw [n.rsv]
    simp only at h1
    split at h1
    · cases h1
      intro hr
      have := hH.rlt _ hr
      omega
    · exact hH.rsv b id h1
  rlt id h1 := by
    rw [n.rsv] at h1
    have := hH.rlt id h1
    simp; omega

end
end Go.Ve
