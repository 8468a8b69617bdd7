import Derived.Test.YtdggnlgklicbdaaVb2
import Derived.Test.YtdggnlgklicbdaaVa5
set_option linter.all false
open Go Go.Ve Go.Proofs
namespace Go.Proofs.Ytdggnlgklicbdaa
set_option maxRecDepth 100000
theorem own : ownKnob Try.prog.godebug = none := by kernel_rfl
theorem shape_alarm {n : Nat} {r : List AV} (h : Shape Try.prog (n + 2) 24 r) : ∃ a : Alarm, r = a.c ∧ a.Int := by
  have h1 := shape_struct (n := n + 1) Try.underlying24 h
  obtain ⟨a, _, rfl, ha, b, _, rfl, hb, c, _, rfl, hc, d, _, rfl, hd, e, _, rfl, he, f, _, rfl, hf, rfl⟩ := h1
  obtain ⟨a, rfl, _, a2⟩ := shape_int (n := n) Try.underlying3 ha
  obtain ⟨b, rfl, _, _⟩ := shape_int (n := n) Try.underlying3 hb
  obtain ⟨c, rfl, _⟩ := shape_string (n := n) Try.underlying9 hc
  obtain ⟨d, rfl, _⟩ := shape_string (n := n) Try.underlying9 hd
  obtain ⟨e, rfl, e1, e2⟩ := shape_int (n := n) Try.underlying3 he
  obtain ⟨f, rfl, _⟩ := shape_string (n := n) Try.underlying9 hf
  have a2 : a ≤ 9223372036854775807 := a2
  have e1 : -9223372036854775808 ≤ e := e1
  have e2 : e ≤ 9223372036854775807 := e2
  exact ⟨⟨a, b, c, d, e, f⟩, rfl, by show a < _; omega, by show _ ≤ e; omega, by show e < _; omega⟩
theorem rows_map2 {α : Type} {c : α → List AV} {Q : α → Prop} : ∀ {rows : List (List AV)}, (∀ r ∈ rows, ∃ a, r = c a ∧ Q a) → ∃ l : List α, rows = l.map c ∧ ∀ a ∈ l, Q a
  | [], _ => ⟨[], rfl, fun _ h => nomatch h⟩
  | r :: rows, h => by
    obtain ⟨a, rfl, ha⟩ := h r (by simp)
    obtain ⟨l, rfl, hl⟩ := rows_map2 (rows := rows) (fun r hr => h r (List.mem_cons_of_mem _ hr))
    refine ⟨a :: l, rfl, fun b hb => ?_⟩
    rcases List.mem_cons.mp hb with rfl | hb
    · exact ha
    · exact hl b hb
theorem shape_alarms {v : AV} (h : ShapeV Try.prog 50 22 v) : ∃ l : List Alarm, v = AL l ∧ l.length ≤ maxLen ∧ ∀ a ∈ l, a.Int := by
  obtain ⟨rows, h1, hl, h2⟩ := shape_slice (n := 49) (e := 24) Try.underlying22 (shapeV_one (by kernel_rfl) h)
  obtain ⟨l, rfl, hq⟩ := rows_map2 (fun r hr => shape_alarm (n := 47) (h2 r hr))
  exact ⟨l, by cases h1; rfl, by simpa using hl, hq⟩
end Go.Proofs.Ytdggnlgklicbdaa
