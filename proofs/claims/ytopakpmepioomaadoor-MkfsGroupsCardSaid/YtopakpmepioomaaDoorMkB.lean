/- mkfs.Make$1: the closure that writes a block of the image. -/
import Derived.Test.YtopakpmepioomaaDoorMkA
namespace Go.Proofs.YtopakpmepioomaaDoor
open Go.RowKit
set_option linter.unusedVariables false

set_option maxRecDepth 100000 in
set_option maxHeartbeats 2000000 in
theorem mkWrite_any (p1 p2 q n : Nat) (f : Nat → Nat → Int) (b : Nat) (hb : b < n) (hn : n ≤ 2048) (z : Nat → Int) (w : World) (hi : At w p2 24 #[.slice (some ⟨q, 0, none⟩) n n])
    (ha : RArr w q 32 256 n (fun i => Ks .u8 256 (f i))) :
    Calls Tryd.prog 29 #[.int .i64 (b : Int), bval z, .int .i64 0, .pointer (some ⟨p1, 0, none⟩), .pointer (some ⟨p2, 0, none⟩)] w fun e w' => (∃ v, e = .returned v) ∧
      RArr w' q 32 256 n (fun i => Ks .u8 256 (if i = b then z else f i)) ∧ ∃ W1, Below w.heap.size w W1 ∧ Only q W1 w' := by
  have hB := Blk.new w 32 256 z
  have hL : Hid (Below w.heap.size w (w.alloc (.cells (Ks .u8 256 z).toArray 32))) := (Below.refl _ _).alloc (Nat.le_refl _) _
  have hA1 := ha.alloc (.cells (Ks .u8 256 z).toArray 32)
  have hc : (w.alloc (.cells (Ks .u8 256 z).toArray 32)).cell? ⟨p2, 0, none⟩ = some (.slice (some ⟨q, 0, none⟩) n n) := (hi.alloc _).cell (i := 0) rfl
  have hth := hA1.there hb
  have hset := Lib.hid (hA1.set hb (vs := Ks .u8 256 z) (by simp [Ks]) (fun i => by simp [Ks]))
  have b1 : (b : Int) < (n : Int) := by omega
  have b0 : (0 : Int) ≤ (b : Int) := by omega
  clear hi ha
  go_enter Tryd.func29, Tryd.ntmps29
  go_wp2_with (first | (refine wp_loadBlkG rfl (.tmp 6) rfl w.heap.size z rfl hB ?_) | (refine wpList_store_mid rfl 32 (.tmp 16) (.tmp 15) rfl q (b * 256) (Ks .u8 256 z).toArray rfl rfl (by simpa [Ks] using hth) (info_block' _) (Ks_one _ _ _) ?_))
  refine bodyPost_end (results_none rfl _ _ _) rfl ⟨⟨_, rfl⟩, hset.out.1.congr fun i _ => ?_, _, hL.out, hset.out.2⟩
  by_cases e : i = b
  · rw [if_pos e, if_pos e]
  · rw [if_neg e, if_neg e]
end Go.Proofs.YtopakpmepioomaaDoor
