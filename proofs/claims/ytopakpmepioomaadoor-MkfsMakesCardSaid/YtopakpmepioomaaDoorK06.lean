/- Texts of this claim, merged by a program (a claim may have 60 files): Jb1. -/
import Derived.Test.YtopakpmepioomaaDoorK02
/- Contracts of jblock's small functions. -/
namespace Go.Proofs.YtopakpmepioomaaDoor
open Go.RowKit
set_option linter.unusedVariables false

theorem results_row {P : Program} {fn : Func} {p : Tmp} {ty : TypeId} (h : fn.results = #[.cell p ty]) (tmps : Array Value) (w : World) (g : Nat) (t : TypeId) (cs : Array Value) (fr : Nat × Nat) (d : TypeDesc)
    (hp : tmps.getD p undef = .pointer (some ⟨g, 0, none⟩)) (hg : w.heap[g]? = some (.cells cs t fr))
    (hu : P.underlying ty = some d) (hd : (match d with | .struct _ | .array _ _ => true | _ => false) = true) (hi : (P.info? ty).map (·.size) = some cs.size) :
    (results fn tmps).run P w = .ok (.agg cs) w := by
  have hp' : tmps[p]?.getD undef = .pointer (some ⟨g, 0, none⟩) := by simpa using hp
  simp [results, h, hp', asAddr, run_loadVar_row w g t ty cs fr d hg hu hd hi]
theorem results_blk {fn : Func} {p : Tmp} (h : fn.results = #[.cell p 32]) (tmps : Array Value) (w : World) (g : Nat) (z : Nat → Int)
    (hp : tmps.getD p undef = .pointer (some ⟨g, 0, none⟩)) (hg : Blk w g 32 256 z) : (results fn tmps).run Tryd.prog w = .ok (bval z) w :=
  results_row h tmps w g 32 (Ks .u8 256 z).toArray (0, 0) _ hp hg Tryd.underlying32 rfl (info_block' _)
theorem results_blk2 {fn : Func} {p u : Tmp} (h : fn.results = #[.cell p 32, .tmp u]) (tmps : Array Value) (w : World) (g : Nat) (z : Nat → Int)
    (hp : tmps.getD p undef = .pointer (some ⟨g, 0, none⟩)) (hg : Blk w g 32 256 z) : (results fn tmps).run Tryd.prog w = .ok (.tuple #[bval z, tmps.getD u undef]) w :=
  results_row_tmp h tmps w g 32 (Ks .u8 256 z).toArray (0, 0) _ hp hg Tryd.underlying32 rfl (info_block' _)
theorem bval_congr {z y : Nat → Int} (h : ∀ i, i < 256 → z i = y i) : bval z = bval y := by unfold bval; rw [Ks_congr h]

/-- b[lo:] of a block -/
theorem run_sliceBlkFrom (g lo : Nat) (L : Int) (hL : L = (lo : Int)) (h3 : lo < 256) (W : World) :
    (Instr.sliceAt 32 (.pointer (some ⟨g, 0, none⟩)) (some (.int .i64 L)) none none).run Tryd.prog W = .ok (.slice (some ⟨g, lo, none⟩) (256 - lo) (256 - lo)) W := by
  subst hL
  have hal : Tryd.prog.arrayLen 32 = 256 := by kernel_rfl
  have hsz : ∀ W, (sizeOf (Tryd.prog.elem 32)).run Tryd.prog W = .ok 1 W := fun W => by kernel_rfl
  rw [run_sliceAt_array_l W 32 _ (by kernel_rfl) .i64 (lo : Int) (by omega) (by rw [hal]; omega), hsz, hal]
  simp only [Result.andThen, slicedAt, Int.toNat_natCast, Nat.mul_one]
  rw [if_neg (by omega), addr_add, Nat.zero_add]
theorem maySeq_any (s : Int) (w : World) : Calls Tryd.prog 62 #[.int .u32 s] w fun e w' => e = .returned (.bool (seqB s)) ∧ w = w' := by
  by_cases h1 : 1 ≤ s
  · by_cases h2 : s ≤ 2147483648
    · have hd : Hid (seqB s = true) := by show _ = _; simp [seqB, h1, h2]
      go_enter Tryd.func62, Tryd.ntmps62
      go_wp2
      go_ret
      exact ⟨ret_bool hd.out.symm, rfl⟩
    · have hd : Hid (seqB s = false) := by show _ = _; simp [seqB, h1, h2]
      go_enter Tryd.func62, Tryd.ntmps62
      go_wp2
      go_ret
      exact ⟨ret_bool hd.out.symm, rfl⟩
  · have hd : Hid (seqB s = false) := by show _ = _; simp [seqB, h1]
    go_enter Tryd.func62, Tryd.ntmps62
    go_wp2
    go_ret
    exact ⟨ret_bool hd.out.symm, rfl⟩
theorem rSeq_any (s : Int) (w : World) : Calls Tryd.prog 53 #[.int .u32 s] w fun e w' => e = .returned (.bool (seqB s)) ∧ w = w' := by
  by_cases h1 : 1 ≤ s
  · by_cases h2 : s ≤ 2147483648
    · have hd : Hid (seqB s = true) := by show _ = _; simp [seqB, h1, h2]
      go_enter Tryd.func53, Tryd.ntmps53
      go_wp2
      go_ret
      exact ⟨ret_bool hd.out.symm, rfl⟩
    · have hd : Hid (seqB s = false) := by show _ = _; simp [seqB, h1, h2]
      go_enter Tryd.func53, Tryd.ntmps53
      go_wp2
      go_ret
      exact ⟨ret_bool hd.out.symm, rfl⟩
  · have hd : Hid (seqB s = false) := by show _ = _; simp [seqB, h1]
    go_enter Tryd.func53, Tryd.ntmps53
    go_wp2
    go_ret
    exact ⟨ret_bool hd.out.symm, rfl⟩
/-- a word put into a block of words -/
theorem putW (g : Nat) {T : TypeId} (l : Nat → Int) (k : Nat) (K v : Int) (hK : K = 4 * (k : Int)) (hk : k < 64) (hv : 0 ≤ v) (w : World) (hB : Blk w g T 256 (wz l)) :
    Calls Tryd.prog 70 #[.slice (some ⟨g, 0, none⟩) 256 256, .int .i64 K, .int .u32 v] w fun e w' => e = .returned (.bool true) ∧ Blk w' g T 256 (wz (upd l k v)) ∧ Only g w w' := by
  refine (put32_yes g 0 256 256 K v (wz l) w (by omega) (by omega) (by omega) hv hB.seg (hB.soft 0 256)).mono fun e w' ⟨he, hp⟩ => ⟨he, ?_, hp.only⟩
  rw [show 0 + K.toNat = 4 * k by omega] at hp
  exact (hB.puts hp).congr fun i _ => wz_put l k v i
theorem jw_upd (k s f : Int) (j : Nat) : upd (upd (upd (upd (fun _ => 0) 0 1280199249) 1 k) 2 s) 3 f j = jw k s f nz j := by
  unfold upd jw nz
  by_cases h0 : j = 0
  · simp [h0]
  by_cases h1 : j = 1
  · simp [h1]
  by_cases h2 : j = 2
  · simp [h2]
  by_cases h3 : j = 3
  · simp [h3]
  simp [h0, h1, h2, h3]

set_option maxRecDepth 100000 in
set_option maxHeartbeats 1000000 in
theorem begin_any (k s f : Int) (w : World) (hk : 0 ≤ k ∧ k < 256) (hs : 0 ≤ s) (hf : 0 ≤ f) :
    Calls Tryd.prog 63 #[.int .u8 k, .int .u32 s, .int .u32 f] w fun e w' => e = .returned (bval (wz (jw k s f nz))) ∧ Below w.heap.size w w' := by
  obtain ⟨hk0, hk1⟩ := hk
  have hal := zero_block
  have hsa := fun W => run_sliceBlkAll (w.heap.size + 1) 0 W
  have hR : Hid (Blk ((w.alloc (.cells (Ks .u8 256 (fun _ => 0)).toArray 32)).alloc (.cells (Ks .u8 256 (fun _ => 0)).toArray 32)) w.heap.size 32 256 (fun _ => 0)) := (Blk.new _ _ _ _).alloc _
  have hB : Hid (Blk ((w.alloc (.cells (Ks .u8 256 (fun _ => 0)).toArray 32)).alloc (.cells (Ks .u8 256 (fun _ => 0)).toArray 32)) (w.heap.size + 1) 32 256 (wz (fun _ => 0))) := by
    have := Blk.new (w.alloc (.cells (Ks .u8 256 (fun _ => 0)).toArray 32)) 32 256 (fun _ => 0)
    simp only [World.size_alloc] at this
    exact this.congr fun i _ => (wz_zero i).symm
  have hL : Hid (Below w.heap.size w ((w.alloc (.cells (Ks .u8 256 (fun _ => 0)).toArray 32)).alloc (.cells (Ks .u8 256 (fun _ => 0)).toArray 32))) := ((Below.refl _ _).alloc (Nat.le_refl _) _).alloc (by simp) _
  go_enter Tryd.func63, Tryd.ntmps63
  go_wp2_with fail
  refine (putW (w.heap.size + 1) _ 0 0 1280199249 rfl (by omega) (by decide) _ hB.out).mono ?_
  rintro e w1 ⟨rfl, hB1, ho1⟩
  have hR1 : Blk w1 w.heap.size 32 256 (fun _ => 0) := hR.out.only ho1 (by omega)
  have hL1 : Below w.heap.size w w1 := hL.out.trans (ho1.below (by omega))
  clear hR hB hL ho1 hal
  go_wp2_with fail
  refine (putW (w.heap.size + 1) _ 1 4 k rfl (by omega) hk0 _ hB1).mono ?_
  rintro e w2 ⟨rfl, hB2, ho2⟩
  have hR2 := hR1.only ho2 (by omega)
  have hL2 : Below w.heap.size w w2 := hL1.trans (ho2.below (by omega))
  clear hR1 hB1 hL1 ho2
  go_wp2_with fail
  refine (putW (w.heap.size + 1) _ 2 8 s rfl (by omega) hs _ hB2).mono ?_
  rintro e w3 ⟨rfl, hB3, ho3⟩
  have hR3 := hR2.only ho3 (by omega)
  have hL3 : Below w.heap.size w w3 := hL2.trans (ho3.below (by omega))
  clear hR2 hB2 hL2 ho3
  go_wp2_with fail
  refine (putW (w.heap.size + 1) _ 3 12 f rfl (by omega) hf _ hB3).mono ?_
  rintro e w4 ⟨rfl, hB4, ho4⟩
  have hR4 := hR3.only ho4 (by omega)
  have hL4 : Below w.heap.size w w4 := hL3.trans (ho4.below (by omega))
  have hB5 := hB4.congr (y := wz (jw k s f nz)) fun i hi => wz_congr 64 (fun j _ => jw_upd k s f j) i hi
  clear hR3 hB3 hL3 ho4 hB4
  generalize hz : wz (jw k s f nz) = z at hB5
  have HZ := Lib.hid hz
  clear hz
  go_wp2_with (first | (refine wp_loadBlk rfl (.tmp 7) rfl (w.heap.size + 1) z rfl hB5 ?_) | (refine wp_storeBlk rfl (.tmp 6) (.tmp 20) rfl w.heap.size z _ rfl rfl hR4 ?_))
  intro w5 hR5 ho5
  go_wp2_with fail
  exact bodyPost_ret (results_blk rfl _ _ w.heap.size z rfl hR5) rfl ⟨by rw [HZ.out], hL4.trans (ho5.below (Nat.le_refl _))⟩
end Go.Proofs.YtopakpmepioomaaDoor
