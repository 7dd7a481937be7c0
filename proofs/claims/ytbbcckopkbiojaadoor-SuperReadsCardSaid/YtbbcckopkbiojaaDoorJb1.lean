/- Contracts of jblock's small functions. -/
import Derived.Test.YtbbcckopkbiojaaDoorWz
import Derived.Test.YtbbcckopkbiojaaDoorBlkWp
import Derived.Test.YtbbcckopkbiojaaDoorSlice
namespace Go.Proofs.YtbbcckopkbiojaaDoor
open Go.RowKit
set_option linter.unusedVariables false

theorem results_row {P : Program} {fn : Func} {p : Tmp} {ty : TypeId} (h : fn.results = #[.cell p ty]) (tmps : Array Value) (w : World) (g : Nat) (t : TypeId) (cs : Array Value) (fr : Nat × Nat) (d : TypeDesc)
    (hp : tmps.getD p undef = .pointer (some ⟨g, 0, none⟩)) (hg : w.heap[g]? = some (.cells cs t fr))
    (hu : P.underlying ty = some d) (hd : (match d with | .struct _ | .array _ _ => true | _ => false) = true) (hi : (P.info? ty).map (·.size) = some cs.size) :
    (results fn tmps).run P w = .ok (.agg cs) w := by
  have hp' : tmps[p]?.getD undef = .pointer (some ⟨g, 0, none⟩) := by simpa using hp
  simp [results, h, hp', asAddr, run_loadVar_row w g t ty cs fr d hg hu hd hi]
theorem results_blk {fn : Func} {p : Tmp} (h : fn.results = #[.cell p 29]) (tmps : Array Value) (w : World) (g : Nat) (z : Nat → Int)
    (hp : tmps.getD p undef = .pointer (some ⟨g, 0, none⟩)) (hg : Blk w g 29 256 z) : (results fn tmps).run Tryd.prog w = .ok (bval z) w :=
  results_row h tmps w g 29 (Ks .u8 256 z).toArray (0, 0) _ hp hg Tryd.underlying29 rfl (info_block' _)
theorem results_blk2 {fn : Func} {p u : Tmp} (h : fn.results = #[.cell p 29, .tmp u]) (tmps : Array Value) (w : World) (g : Nat) (z : Nat → Int)
    (hp : tmps.getD p undef = .pointer (some ⟨g, 0, none⟩)) (hg : Blk w g 29 256 z) : (results fn tmps).run Tryd.prog w = .ok (.tuple #[bval z, tmps.getD u undef]) w :=
  results_row_tmp h tmps w g 29 (Ks .u8 256 z).toArray (0, 0) _ hp hg Tryd.underlying29 rfl (info_block' _)
theorem bval_congr {z y : Nat → Int} (h : ∀ i, i < 256 → z i = y i) : bval z = bval y := by unfold bval; rw [Ks_congr h]

/-- b[lo:] of a block -/
theorem run_sliceBlkFrom (g lo : Nat) (L : Int) (hL : L = (lo : Int)) (h3 : lo < 256) (W : World) :
    (Instr.sliceAt 29 (.pointer (some ⟨g, 0, none⟩)) (some (.int .i64 L)) none none).run Tryd.prog W = .ok (.slice (some ⟨g, lo, none⟩) (256 - lo) (256 - lo)) W := by
  subst hL
  have hal : Tryd.prog.arrayLen 29 = 256 := by kernel_rfl
  have hsz : ∀ W, (sizeOf (Tryd.prog.elem 29)).run Tryd.prog W = .ok 1 W := fun W => by kernel_rfl
  rw [run_sliceAt_array_l W 29 _ (by kernel_rfl) .i64 (lo : Int) (by omega) (by rw [hal]; omega), hsz, hal]
  simp only [Result.andThen, slicedAt, Int.toNat_natCast, Nat.mul_one]
  rw [if_neg (by omega), addr_add, Nat.zero_add]
/-- a word put into a block of words -/
theorem putW (g : Nat) {T : TypeId} (l : Nat → Int) (k : Nat) (K v : Int) (hK : K = 4 * (k : Int)) (hk : k < 64) (hv : 0 ≤ v) (w : World) (hB : Blk w g T 256 (wz l)) :
    Calls Tryd.prog 47 #[.slice (some ⟨g, 0, none⟩) 256 256, .int .i64 K, .int .u32 v] w fun e w' => e = .returned (.bool true) ∧ Blk w' g T 256 (wz (upd l k v)) ∧ Only g w w' := by
  refine (put32_yes g 0 256 256 K v (wz l) w (by omega) (by omega) (by omega) hv hB.seg (hB.soft 0 256)).mono fun e w' ⟨he, hp⟩ => ⟨he, ?_, hp.only⟩
  rw [show 0 + K.toNat = 4 * k by omega] at hp
  exact (hB.puts hp).congr fun i _ => wz_put l k v i
theorem jw_upd (k s f : Int) (j : Nat) : upd (upd (upd (upd (fun _ => 0) 0 1280199249) 1 k) 2 s) 3 f j = jw k s f nz j := by
  unfold upd jw nz
  by_cases h0 : j = 0
  · simp [h0]
  by_cases h1 : j = 1
  · simp [h1]
  by_cases h2 : j = 2
  · simp [h2]
  by_cases h3 : j = 3
  · simp [h3]
  simp [h0, h1, h2, h3]

end Go.Proofs.YtbbcckopkbiojaaDoor
