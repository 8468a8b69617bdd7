import Derived.Test.YtdlnkfghgbddhaaGreatVb2
import Derived.Test.YtdlnkfghgbddhaaGreatVa5
set_option linter.all false
open Go Go.Ve Go.Proofs
namespace Go.Proofs.YtdlnkfghgbddhaaGreat
set_option maxRecDepth 100000
theorem own : ownKnob Tryz.prog.godebug = none := by kernel_rfl
theorem shape_alarm {n : Nat} {r : List AV} (h : Shape Tryz.prog (n + 2) 24 r) : ∃ a : Alarm, r = a.c := by
  have h1 := shape_struct (n := n + 1) Tryz.underlying24 h
  obtain ⟨a, _, rfl, ha, b, _, rfl, hb, c, _, rfl, hc, d, _, rfl, hd, e, _, rfl, he, f, _, rfl, hf, rfl⟩ := h1
  obtain ⟨a, rfl, _, _⟩ := shape_int (n := n) Tryz.underlying3 ha
  obtain ⟨b, rfl, _, _⟩ := shape_int (n := n) Tryz.underlying3 hb
  obtain ⟨c, rfl, _⟩ := shape_string (n := n) Tryz.underlying9 hc
  obtain ⟨d, rfl, _⟩ := shape_string (n := n) Tryz.underlying9 hd
  obtain ⟨e, rfl, _, _⟩ := shape_int (n := n) Tryz.underlying3 he
  obtain ⟨f, rfl, _⟩ := shape_string (n := n) Tryz.underlying9 hf
  exact ⟨⟨a, b, c, d, e, f⟩, rfl⟩
theorem shape_entry {n : Nat} {r : List AV} (h : Shape Tryz.prog (n + 3) 26 r) : ∃ e : Entry, r = e.c := by
  have h1 := shape_struct (n := n + 2) Tryz.underlying26 h
  obtain ⟨a, _, rfl, ha, b, _, rfl, hb, c, _, rfl, hc, d, _, rfl, hd, e, _, rfl, he, rfl⟩ := h1
  obtain ⟨a, rfl, h1, h2⟩ := shape_int (n := n + 1) Tryz.underlying22 ha
  obtain ⟨b, rfl⟩ := shape_alarm (n := n) hb
  obtain ⟨c, rfl, _, _⟩ := shape_int (n := n + 1) Tryz.underlying3 hc
  obtain ⟨d, rfl, _, _⟩ := shape_int (n := n + 1) Tryz.underlying3 hd
  obtain ⟨e, rfl, _⟩ := shape_string (n := n + 1) Tryz.underlying9 he
  have h1 : (0 : Int) ≤ a := h1
  have h2 : a ≤ 18446744073709551615 := h2
  obtain ⟨k, rfl⟩ := Int.eq_ofNat_of_zero_le h1
  exact ⟨⟨⟨k, by omega⟩, b, c, d, e⟩, rfl⟩
theorem shape_change {n : Nat} {r : List AV} (h : Shape Tryz.prog (n + 4) 28 r) : ∃ x : Change, r = x.c := by
  have h1 := shape_struct (n := n + 3) Tryz.underlying28 h
  obtain ⟨a, _, rfl, ha, b, _, rfl, hb, rfl⟩ := h1
  obtain ⟨a, rfl, _, _⟩ := shape_int (n := n + 2) Tryz.underlying3 ha
  obtain ⟨b, rfl⟩ := shape_entry (n := n) hb
  exact ⟨⟨a, b⟩, by simp [Change.c]⟩
theorem shape_changes {v : AV} (h : ShapeV Tryz.prog 50 29 v) : ∃ l : List Change, v = CL l ∧ l.length ≤ maxLen := by
  obtain ⟨rows, h1, hl, h2⟩ := shape_slice (n := 49) (e := 28) Tryz.underlying29 (shapeV_one (by kernel_rfl) h)
  obtain ⟨l, rfl⟩ := rows_map h2 fun r hr => shape_change (n := 45) hr
  exact ⟨l, by cases h1; rfl, by simpa using hl⟩
end Go.Proofs.YtdlnkfghgbddhaaGreat
