/- mkfs.Make: what it begins with. -/
import Derived.Test.YtopakpmepioomaaDoorMkB
import Derived.Test.YtopakpmepioomaaDoorGeo4
namespace Go.Proofs.YtopakpmepioomaaDoor
open Go.RowKit
set_option linter.unusedVariables false
theorem info_block3 : (Tryd.prog.info? 32).map (fun i => (i.zero, i.size, i.bytes)) = some (some (bval fun _ => 0), 256, 256) := by kernel_rfl
theorem run_mkimage (n : Nat) (hn : n ≤ 2048) (W : World) : (Instr.makeSlice 24 (.int .i64 (n : Int)) (.int .i64 (n : Int))).run Tryd.prog W = .ok (.slice (some ⟨W.heap.size, 0, none⟩) n n) (W.alloc (.cells (madeCells (bval fun _ => 0).cells (n * 256)) 32)) :=
  run_mkrow (P := Tryd.prog) 24 32 (bval fun _ => 0) 256 256 Tryd.underlying24 info_block3 .i64 .i64 n (by omega) (by omega) W
theorem image_made (w : World) (n : Nat) : RArr (w.alloc (.cells (madeCells (bval fun _ => 0).cells (n * 256)) 32)) w.heap.size 32 256 n (fun _ => Ks .u8 256 (fun _ => 0)) :=
  RArr.made (m := 256) w (Ks .u8 256 (fun _ => 0)).toArray (by simp [Ks]) (by omega) n 32
/-- what the walk keeps: the geometry, the image's slice (p2), the first error (p1), the image (q) -/
structure MkS (w : World) (G S I J : Int) (p1 p2 q n : Nat) (im : Nat → Nat → Int) (W : World) : Prop where
  g : At W w.heap.size 23 (gcells G S I J)
  i : At W p2 24 #[.slice (some ⟨q, 0, none⟩) n n]
  e : At W p1 27 #[.int .i64 0]
  a : RArr W q 32 256 n (fun i => Ks .u8 256 (im i))
  bel : Below w.heap.size w W
end Go.Proofs.YtopakpmepioomaaDoor
