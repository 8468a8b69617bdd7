import Derived.Test.YtficgmeakeiacaaProg
import Derived.WalkKit
import Derived.Deep.LoopGhost
import Derived.Ground.NamesProg
import Derived.Ground.Names2Prog
import Derived.Shelf.Lay
import Derived.Shelf.Slices.In.Clone
import Derived.Shelf.Slices.In.CompactS
import Derived.Shelf.Slices.In.SortNone
import Derived.Sort.OwnSorted
import Derived.Sort.Grow
import Derived.Lib.OwnBridge
import Derived.OwnWalkIn
import Derived.TacticsInMore
import Derived.RegionIn
import Derived.LoopNIn
import Derived.LoopIn
import Derived.Sort.LoopGhostIn
import Derived.Sort.CutIn
import Derived.Sort.QuietIn
import Derived.Shelf.RegionOpen
import Derived.Shelf.AbstractIn
set_option linter.all false
set_option linter.all false
set_option maxRecDepth 100000
namespace Go.Proofs.Ytficgmeakeiacaa
open Go.Shelf
def laysClone.ρ : Shelf.Ren := ⟨fun x => bif Nat.beq x 16 then 36 else x, fun x => bif Nat.beq x 24 then 22 else x, fun x => x⟩
theorem laysClone.lays : Lays2.n16 Try.prog laysClone.ρ where
  mixed := by kernel_rfl
  f16 := by rw [show laysClone.ρ.f 16 = 36 from rfl, Try.func36]; kernel_rfl
  t4 := by kernel_rfl
  a4 w := by kernel_rfl
  z4 w := by kernel_rfl
  v4 w := by kernel_rfl
  t9 := by kernel_rfl
  a9 w := by kernel_rfl
  z9 w := by kernel_rfl
  v9 w := by kernel_rfl
  t24 := by kernel_rfl
  a24 w := by kernel_rfl
  z24 w := by kernel_rfl
  v24 w := by kernel_rfl
  i9 := by kernel_rfl
def laysCompact.ρ : Shelf.Ren := ⟨fun x => bif Nat.beq x 194 then 38 else x, fun x => bif Nat.beq x 31 then 22 else x, fun x => x⟩
theorem laysCompact.lays : Lays.n194 Try.prog laysCompact.ρ where
  mixed := by kernel_rfl
  f194 := by rw [show laysCompact.ρ.f 194 = 38 from rfl, Try.func38]; kernel_rfl
  t0 := by kernel_rfl
  a0 w := by kernel_rfl
  z0 w := by kernel_rfl
  v0 w := by kernel_rfl
  t3 := by kernel_rfl
  a3 w := by kernel_rfl
  z3 w := by kernel_rfl
  v3 w := by kernel_rfl
  t4 := by kernel_rfl
  a4 w := by kernel_rfl
  z4 w := by kernel_rfl
  v4 w := by kernel_rfl
  t9 := by kernel_rfl
  a9 w := by kernel_rfl
  z9 w := by kernel_rfl
  v9 w := by kernel_rfl
  t31 := by kernel_rfl
  a31 w := by kernel_rfl
  z31 w := by kernel_rfl
  v31 w := by kernel_rfl
def laysSort.ρ : Shelf.Ren := ⟨fun x => bif Nat.beq x 190 then 37 else bif Nat.beq x 125 then 54 else bif Nat.beq x 258 then 53 else bif Nat.beq x 128 then 71 else bif Nat.beq x 129 then 72 else bif Nat.beq x 302 then 63 else bif Nat.beq x 303 then 64 else bif Nat.beq x 304 then 65 else bif Nat.beq x 305 then 66 else bif Nat.beq x 306 then 67 else bif Nat.beq x 307 then 68 else bif Nat.beq x 308 then 55 else bif Nat.beq x 309 then 69 else bif Nat.beq x 310 then 70 else bif Nat.beq x 333 then 76 else bif Nat.beq x 329 then 77 else bif Nat.beq x 330 then 78 else bif Nat.beq x 334 then 79 else bif Nat.beq x 335 then 80 else bif Nat.beq x 336 then 73 else bif Nat.beq x 344 then 81 else x, fun x => bif Nat.beq x 31 then 22 else bif Nat.beq x 46 then 76 else bif Nat.beq x 51 then 92 else bif Nat.beq x 53 then 41 else bif Nat.beq x 183 then 86 else bif Nat.beq x 182 then 85 else bif Nat.beq x 131 then 35 else bif Nat.beq x 218 then 97 else bif Nat.beq x 222 then 100 else bif Nat.beq x 228 then 102 else bif Nat.beq x 229 then 103 else x, fun x => x⟩
theorem laysSort.lays : Lays.n190 Try.prog laysSort.ρ where
  mixed := by kernel_rfl
  f125 := by rw [show laysSort.ρ.f 125 = 54 from rfl, Try.func54]; kernel_rfl
  f128 := by rw [show laysSort.ρ.f 128 = 71 from rfl, Try.func71]; kernel_rfl
  f129 := by rw [show laysSort.ρ.f 129 = 72 from rfl, Try.func72]; kernel_rfl
  f190 := by rw [show laysSort.ρ.f 190 = 37 from rfl, Try.func37]; kernel_rfl
  f258 := by rw [show laysSort.ρ.f 258 = 53 from rfl, Try.func53]; kernel_rfl
  f302 := by rw [show laysSort.ρ.f 302 = 63 from rfl, Try.func63]; kernel_rfl
  f303 := by rw [show laysSort.ρ.f 303 = 64 from rfl, Try.func64]; kernel_rfl
  f304 := by rw [show laysSort.ρ.f 304 = 65 from rfl, Try.func65]; kernel_rfl
  f305 := by rw [show laysSort.ρ.f 305 = 66 from rfl, Try.func66]; kernel_rfl
  f306 := by rw [show laysSort.ρ.f 306 = 67 from rfl, Try.func67]; kernel_rfl
  f307 := by rw [show laysSort.ρ.f 307 = 68 from rfl, Try.func68]; kernel_rfl
  f308 := by rw [show laysSort.ρ.f 308 = 55 from rfl, Try.func55]; kernel_rfl
  f309 := by rw [show laysSort.ρ.f 309 = 69 from rfl, Try.func69]; kernel_rfl
  f310 := by rw [show laysSort.ρ.f 310 = 70 from rfl, Try.func70]; kernel_rfl
  f329 := by rw [show laysSort.ρ.f 329 = 77 from rfl, Try.func77]; kernel_rfl
  f330 := by rw [show laysSort.ρ.f 330 = 78 from rfl, Try.func78]; kernel_rfl
  f333 := by rw [show laysSort.ρ.f 333 = 76 from rfl, Try.func76]; kernel_rfl
  f334 := by rw [show laysSort.ρ.f 334 = 79 from rfl, Try.func79]; kernel_rfl
  f335 := by rw [show laysSort.ρ.f 335 = 80 from rfl, Try.func80]; kernel_rfl
  f336 := by rw [show laysSort.ρ.f 336 = 73 from rfl, Try.func73]; kernel_rfl
  f344 := by rw [show laysSort.ρ.f 344 = 81 from rfl, Try.func81]; kernel_rfl
  t0 := by kernel_rfl
  a0 w := by kernel_rfl
  z0 w := by kernel_rfl
  v0 w := by kernel_rfl
  t3 := by kernel_rfl
  a3 w := by kernel_rfl
  z3 w := by kernel_rfl
  v3 w := by kernel_rfl
  t4 := by kernel_rfl
  a4 w := by kernel_rfl
  z4 w := by kernel_rfl
  v4 w := by kernel_rfl
  t5 := by kernel_rfl
  a5 w := by kernel_rfl
  z5 w := by kernel_rfl
  v5 w := by kernel_rfl
  t9 := by kernel_rfl
  a9 w := by kernel_rfl
  z9 w := by kernel_rfl
  v9 w := by kernel_rfl
  t31 := by kernel_rfl
  a31 w := by kernel_rfl
  z31 w := by kernel_rfl
  v31 w := by kernel_rfl
  t46 := by kernel_rfl
  a46 w := by kernel_rfl
  z46 w := by kernel_rfl
  v46 w := by kernel_rfl
  t51 := by kernel_rfl
  a51 w := by kernel_rfl
  z51 w := by kernel_rfl
  v51 w := by kernel_rfl
  t53 := by kernel_rfl
  a53 w := by kernel_rfl
  z53 w := by kernel_rfl
  v53 w := by kernel_rfl
  t131 := by kernel_rfl
  a131 w := by kernel_rfl
  z131 w := by kernel_rfl
  v131 w := by kernel_rfl
  t182 := by kernel_rfl
  a182 w := by kernel_rfl
  z182 w := by kernel_rfl
  v182 w := by kernel_rfl
  t183 := by kernel_rfl
  a183 w := by kernel_rfl
  z183 w := by kernel_rfl
  v183 w := by kernel_rfl
  t218 := by kernel_rfl
  a218 w := by kernel_rfl
  z218 w := by kernel_rfl
  v218 w := by kernel_rfl
  t222 := by kernel_rfl
  a222 w := by kernel_rfl
  z222 w := by kernel_rfl
  v222 w := by kernel_rfl
  t228 := by kernel_rfl
  a228 w := by kernel_rfl
  z228 w := by kernel_rfl
  v228 w := by kernel_rfl
  t229 := by kernel_rfl
  a229 w := by kernel_rfl
  z229 w := by kernel_rfl
  v229 w := by kernel_rfl
end Go.Proofs.Ytficgmeakeiacaa
namespace Go.Proofs.Ytficgmeakeiacaa
open Go.RowKit Go.Shelf Go.Sort
def Left (w : World) (ss : List (List UInt8)) (e : Ending) (w' : World) : Prop :=
  ∃ g cap, e = .returned (.slice (some ⟨g, 0, none⟩) (Lib.compact (ss.mergeSort fun x y => decide (x ≤ y))).length cap) ∧
    w'.ownsRow w.heap.size 9 1 (.slice (some ⟨g, 0, none⟩) (Lib.compact (ss.mergeSort fun x y => decide (x ≤ y))).length cap) (Lib.compact (ss.mergeSort fun x y => decide (x ≤ y))).length ((Lib.compact (ss.mergeSort fun x y => decide (x ≤ y))).map encStr) ∧ Below w.heap.size w w'
theorem left_of {w w1 : World} {g cap n nn q : Nat} {os : Array Obj} {ss : List (List UInt8)} (hown : w1.ownsRow w.heap.size 9 1 (.slice (some ⟨g, 0, none⟩) n cap) n (ss.map encStr)) (hbel : Below w.heap.size w w1) (hbg : w.heap.size ≤ g) (hlen : ss.length = n) :
    Left w ss (.returned (.slice (some ⟨g, 0, none⟩) (Lib.compact (ss.mergeSort fun x y => decide (x ≤ y))).length cap))
      (putRow encStr (Sort.ahead (grow (putRow encStr (Sort.ahead w1 nn) g 0 (ss.mergeSort fun x y => decide (x ≤ y)).toArray) os) q) g 0 (Lib.compact (ss.mergeSort fun x y => decide (x ≤ y)) ++ List.replicate (n - (Lib.compact (ss.mergeSort fun x y => decide (x ≤ y))).length) []).toArray) := by
  have hl2 : (ss.mergeSort fun x y => decide (x ≤ y)).length = ss.length := List.length_mergeSort ss
  have hle := Lib.compact_length_le (ss.mergeSort fun x y => decide (x ≤ y))
  subst hlen
  rcases hown.2 with ⟨h0, _⟩ | ⟨g', cap', cur, hv, hbase, hb, h1, h2, h3, h4⟩
  · cases h0
  cases hv
  have hs := ownsRow_sorted (n := nn) (os := os) (ts := ss.mergeSort fun x y => decide (x ≤ y)) hl2 hbase hb h1 h2 h3
  have hc := Lib.ownsRow_putRow (q := q) (k := (Lib.compact (ss.mergeSort fun x y => decide (x ≤ y))).length) (ys := Lib.compact (ss.mergeSort fun x y => decide (x ≤ y)) ++ List.replicate (ss.length - (Lib.compact (ss.mergeSort fun x y => decide (x ≤ y))).length) []) hs (by simp; omega) (by omega)
  rw [List.take_left] at hc
  exact ⟨g, cap, rfl, hc, Lib.below_putRow (hbel.grown (grownBy_sorted _) hbel.size (fun j hj => by cases hj; exact hbase)) hbg⟩
set_option maxHeartbeats 2000000 in
set_option maxRecDepth 100000 in
theorem f_tailIn (D n : Nat) (arg : Value) (ss : List (List UInt8)) (w : World) (hn : n ≤ 4611686018427387903)
    (hclone : CallsIn (Fence.list [14, 36, 37, 38, 53, 54, 55, 63, 64, 65, 66, 67, 68, 69, 70, 71, 72, 73, 74, 75, 76, 77, 78, 79, 80, 81] (some D)) 66 Try.prog 36 #[arg] w fun e w' => ∃ v', e = .returned v' ∧ w'.ownsRow w.heap.size 9 1 v' n (ss.map encStr) ∧ v' ≠ .slice none 0 0 ∧ Below w.heap.size w w') :
    CallsIn (Fence.list [14, 36, 37, 38, 53, 54, 55, 63, 64, 65, 66, 67, 68, 69, 70, 71, 72, 73, 74, 75, 76, 77, 78, 79, 80, 81] (some D)) 67 Try.prog 14 #[arg] w (Left w ss) := by
  gi_enter Try.func14, Try.ntmps14
  gi_wp2_with (first
    | (gi_at_call 36; refine hclone.mono ?_; rintro e w1 ⟨v1, rfl, hown, hnn, hbel⟩
       obtain ⟨g, cap, rfl, hbg, hgl, hncap, hcm, hlen, hH⟩ := Lib.holds_of_ownsRow hown hnn
       have hsort := ((AnyS.slices_Sort_string_alone laysSort.lays D g 0 cap ss w1 hH hgl (by omega)).wider (L' := [14, 36, 37, 38, 53, 54, 55, 63, 64, 65, 66, 67, 68, 69, 70, 71, 72, 73, 74, 75, 76, 77, 78, 79, 80, 81]) (by decide))
       rw [hlen] at hsort
       have X : Aside (w1.ownsRow w.heap.size 9 1 (.slice (some ⟨g, 0, none⟩) n cap) n (ss.map encStr) ∧ Below w.heap.size w w1 ∧ w.heap.size ≤ g ∧ g < w1.heap.size ∧ n ≤ cap ∧ cap ≤ maxLen ∧ ss.length = n ∧ Holds encStr w1 g 0 ss.toArray) := ⟨hown, hbel, hbg, hgl, hncap, hcm, hlen, hH⟩
       clear hown hbel hH hnn)
    | (gi_at_call 37; refine hsort.mono ?_; rintro e w2 ⟨rfl, nn, os, rfl⟩
       have hl2 : (ss.mergeSort fun x y => decide (x ≤ y)).length = n := by rw [List.length_mergeSort]; exact X.out.2.2.2.2.2.2.1
       have hH2 : Holds encStr (grow (putRow encStr (Sort.ahead w1 nn) g 0 (ss.mergeSort fun x y => decide (x ≤ y)).toArray) os) g 0 (ss.mergeSort fun x y => decide (x ≤ y)).toArray :=
         holds_grow encStr _ os g 0 _ (by simpa [putRow, mapBlock, Sort.ahead] using X.out.2.2.2.1) (holds_putRow encStr _ g 0 _ _ (holds_ahead encStr w1 nn g 0 _ X.out.2.2.2.2.2.2.2) (by simp))
       have hcomp := (((AnyS.slices_Compact_string_in laysCompact.lays D g 0 cap (ss.mergeSort fun x y => decide (x ≤ y)) _ hH2 (by omega) (by have := X.out.2.2.2.2.1; omega)).wider (L' := [14, 36, 37, 38, 53, 54, 55, 63, 64, 65, 66, 67, 68, 69, 70, 71, 72, 73, 74, 75, 76, 77, 78, 79, 80, 81]) (by decide)).more (show 0 ≤ 66 by omega))
       rw [hl2] at hcomp
       clear hH2 hsort)
    | (gi_at_call 38; refine hcomp.mono ?_; rintro e w3 ⟨rfl, q, rfl⟩))
  go_ret
  exact left_of X.out.1 X.out.2.1 X.out.2.2.1 X.out.2.2.2.2.2.2.1
theorem f_anyIn (D b off n c : Nat) (zs : List ByteArray) (w : World) (hz : n ≤ zs.length) (hbig : n * 16 ≤ 140737488355328) (hc : ∀ j, j < zs.length → w.cell? ⟨b, off + j, none⟩ = some (.string (zs.getD j ByteArray.empty))) :
    CallsIn (Fence.list [14, 36, 37, 38, 53, 54, 55, 63, 64, 65, 66, 67, 68, 69, 70, 71, 72, 73, 74, 75, 76, 77, 78, 79, 80, 81] (some D)) 67 Try.prog 14 #[.slice (some ⟨b, off, none⟩) n c] w (Left w ((zs.take n).map (·.data.toList))) :=
  f_tailIn D n _ _ w (by omega) ((((AnyS.slices_Clone_string_in laysClone.lays D b off n c zs w hz hbig hc).wider (L' := [14, 36, 37, 38, 53, 54, 55, 63, 64, 65, 66, 67, 68, 69, 70, 71, 72, 73, 74, 75, 76, 77, 78, 79, 80, 81]) (by decide)).more (show 0 ≤ 66 by omega)).mono fun e w' ⟨v', he, hown, hnn, hbel⟩ => ⟨v', he, by rw [Lib.map_encStr]; exact hown, hnn, hbel⟩)
theorem f_zeroIn (D : Nat) (a : Addr) (c : Nat) (w : World) :
    CallsIn (Fence.list [14, 36, 37, 38, 53, 54, 55, 63, 64, 65, 66, 67, 68, 69, 70, 71, 72, 73, 74, 75, 76, 77, 78, 79, 80, 81] (some D)) 67 Try.prog 14 #[.slice (some a) 0 c] w (Left w []) :=
  f_tailIn D 0 _ [] w (by omega) (((AnyS.slices_Clone_string_zero_in laysClone.lays D a c w).wider (L' := [14, 36, 37, 38, 53, 54, 55, 63, 64, 65, 66, 67, 68, 69, 70, 71, 72, 73, 74, 75, 76, 77, 78, 79, 80, 81]) (by decide)).more (show 0 ≤ 66 by omega))
set_option maxHeartbeats 2000000 in
theorem f_nilIn (D n c : Nat) (w : World) :
    CallsIn (Fence.list [14, 36, 37, 38, 53, 54, 55, 63, 64, 65, 66, 67, 68, 69, 70, 71, 72, 73, 74, 75, 76, 77, 78, 79, 80, 81] (some D)) 67 Try.prog 14 #[.slice none n c] w fun e w' => e = .returned (.slice none 0 0) ∧ w' = w := by
  gi_enter Try.func14, Try.ntmps14
  gi_wp2_with (first
    | (gi_at_call 36; refine ((((AnyS.slices_Clone_string_nil_in laysClone.lays D n c _).wider (L' := [14, 36, 37, 38, 53, 54, 55, 63, 64, 65, 66, 67, 68, 69, 70, 71, 72, 73, 74, 75, 76, 77, 78, 79, 80, 81]) (by decide)).more (show 0 ≤ 66 by omega))).mono ?_; rintro e w' ⟨rfl, rfl⟩)
    | (gi_at_call 37; refine ((((AnyS.slices_Sort_string_none_alone laysSort.lays D none 0 _).wider (L' := [14, 36, 37, 38, 53, 54, 55, 63, 64, 65, 66, 67, 68, 69, 70, 71, 72, 73, 74, 75, 76, 77, 78, 79, 80, 81]) (by decide)).more (show 2 ≤ 66 by omega))).mono ?_; rintro e w' ⟨rfl, rfl⟩)
    | (gi_at_call 38; refine ((((AnyS.slices_Compact_string_empty_in laysCompact.lays D none 0 _).wider (L' := [14, 36, 37, 38, 53, 54, 55, 63, 64, 65, 66, 67, 68, 69, 70, 71, 72, 73, 74, 75, 76, 77, 78, 79, 80, 81]) (by decide)).more (show 0 ≤ 66 by omega))).mono ?_; rintro e w' ⟨rfl, rfl⟩))
  go_ret
  exact ⟨rfl, rfl⟩
end Go.Proofs.Ytficgmeakeiacaa
