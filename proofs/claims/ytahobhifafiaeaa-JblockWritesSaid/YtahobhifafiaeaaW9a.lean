/- The walks of the laws JblockHeads and JblockCommits. -/
import Derived.Test.YtahobhifafiaeaaAwake9
import Derived.Test.YtahobhifafiaeaaOpen
namespace Go.Proofs.Ytahobhifafiaeaa
open Go.RowKit
set_option linter.unusedVariables false

theorem nz_wds : Wds nz := fun _ => by unfold nz; decide
theorem sumR_wds {v : Int} (hv : 0 ≤ v ∧ v < 4294967296) : Wds (sumR v) := fun k => by unfold sumR; split <;> omega
theorem seqB_bd {s : Int} (h : seqB s = true) : 1 ≤ s ∧ s ≤ 2147483648 := of_decide_eq_true h
theorem wds_eq {z l : Nat → Int} (hl : Wds l) (h : z = wz l) (k : Nat) : wd z k = l k := by rw [h]; exact wd_wz hl k
/-- what a commit block that was written tells -/
theorem commit_law (s n v : Int) (hv : 0 ≤ v ∧ v < 4294967296) (h : commitOk s n = true) : commitV (commitZ s n v) = .tuple #[.int .u32 s, .int .i64 n, .int .u32 v, .int .i64 0] ∧ kindOf (commitZ s n v) = 2 ∧ seqOf (commitZ s n v) = s := by
  have h' := h
  unfold commitOk at h'
  rw [Bool.and_eq_true, decide_eq_true_eq] at h'
  obtain ⟨hs, hn⟩ := h'
  have hsb := seqB_bd hs
  have hz : commitZ s n v = wz (jw 2 s n (sumR v)) := by unfold commitZ; rw [h]; rfl
  have hW : Wds (jw 2 s n (sumR v)) := jw_wds (by decide) (by omega) (by omega) (sumR_wds hv)
  have e := wds_eq hW hz
  have e0 : wd (commitZ s n v) 0 = 1280199249 := e 0
  have e1 : wd (commitZ s n v) 1 = 2 := e 1
  have e2 : wd (commitZ s n v) 2 = s := e 2
  have e3 : wd (commitZ s n v) 3 = n := e 3
  have e4 : wd (commitZ s n v) 4 = v := e 4
  have hk : kindB (commitZ s n v) = true := by unfold kindB; rw [e0, e1, e2, hs]; rfl
  have hk2 : kindOf (commitZ s n v) = 2 := by unfold kindOf; rw [hk, e1]; rfl
  have hq : seqOf (commitZ s n v) = s := by unfold seqOf; rw [hk, e2]; rfl
  refine ⟨?_, hk2, hq⟩
  have hr : commitRd (commitZ s n v) = true := by
    unfold commitRd
    rw [hk2, e3, decide_eq_true hn]
    simp only [beq_self_eq_true, Bool.true_and]
    rw [allZ_iff]
    intro j _
    rw [e]
    unfold jw sumR
    rw [if_neg (by omega), if_neg (by omega), if_neg (by omega), if_neg (by omega), if_neg (by omega)]
  unfold commitV
  rw [hr, hq, e3, e4]
  rfl
theorem commitZ_byt (s n v : Int) : Byt (commitZ s n v) := by
  unfold commitZ
  split
  · exact wz_byt _
  · intro i; show (0 : Int) ≤ 0 ∧ (0 : Int) < 256; decide

set_option maxRecDepth 100000 in
set_option maxHeartbeats 4000000 in
theorem commits_walk (s n v : Int) (w : World) (hs : 0 ≤ s ∧ s < 4294967296) (hn : -9223372036854775808 ≤ n ∧ n ≤ 9223372036854775807) (hv : 0 ≤ v ∧ v < 4294967296) :
    Calls Try.prog 6 #[.int .u32 s, .int .i64 n, .int .u32 v] w fun e w' => e = .returned (.bool true) ∧ Below w.heap.size w w' := by
  have hlaw := commit_law s n v hv
  have hbyt := commitZ_byt s n v
  have hWC := fun W => writeCommit_any s n v W hs hn hv
  have hno : commitOk s n = false → commitZ s n v = fun _ => 0 := fun h => by unfold commitZ; rw [h]; rfl
  have hcases : commitOk s n = true ∧ 1 ≤ s ∧ s ≤ 2147483648 ∧ 1 ≤ n ∧ n ≤ 256 ∨ commitOk s n = false ∧ (s < 1 ∨ 1 ≤ s ∧ 2147483648 < s ∨ 1 ≤ s ∧ s ≤ 2147483648 ∧ n < 1 ∨ 1 ≤ s ∧ s ≤ 2147483648 ∧ 1 ≤ n ∧ 256 < n) := by
    unfold commitOk seqB
    by_cases h : (1 ≤ s ∧ s ≤ 2147483648) ∧ (1 ≤ n ∧ n ≤ 256)
    · left; simp [h]
    · right
      refine ⟨?_, by omega⟩
      rw [Bool.and_eq_false_iff]
      simp only [decide_eq_false_iff_not]
      omega
  generalize commitZ s n v = z at hlaw hbyt hWC hno
  have HL := Lib.hid hlaw
  have HWC := Lib.hid hWC
  have HNO := Lib.hid hno
  have HCS := Lib.hid hcases
  clear hlaw hWC hno hcases
  obtain ⟨hs0, hs1⟩ := hs
  obtain ⟨hn0, hn1⟩ := hn
  have hal := zero_block
  go_enter Try.func6, Try.ntmps6
  go_wp2_with fail
  refine (awake9 _).mono ?_
  rintro e w1 ⟨rfl, hL1⟩
  go_wp2_with fail
  refine (HWC.out _).mono ?_
  rintro e w2 ⟨rfl, hb2⟩
  have hL2 : Below w.heap.size w w2 := hL1.trans (hb2.mono hL1.size)
  have hn2 := Blk.new w2 28 256 (fun _ => 0)
  clear hL1 hb2 HWC
  rcases HCS.out with ⟨hok, c1, c2, c3, c4⟩ | ⟨hok, hc⟩
  · obtain ⟨l1, l2, l3⟩ := HL.out hok
    rw [hok]
    have L1 := Lib.hid l1
    have L2 := Lib.hid l2
    have L3 := Lib.hid l3
    clear HL HNO HCS hok l1 l2 l3
    rw [show errOf true 2 = 0 from rfl]
    go_wp2_with (first | (refine wp_storeBlk rfl (.tmp 7) (.tmp 22) rfl w2.heap.size z _ rfl rfl hn2 ?_))
    intro w3 hB3 ho3
    have hL3 : Below w.heap.size w w3 := (hL2.alloc hL2.size _).trans (ho3.below hL2.size)
    clear hL2 hn2 ho3 hal
    go_wp2_with (first | (refine wp_loadBlk rfl (.tmp 7) rfl w2.heap.size z rfl hB3 ?_))
    refine (readCommit_any z hbyt _).mono ?_
    rintro e w4 ⟨rfl, hb4⟩
    rw [L1.out]
    have hB4 := hB3.below hb4 hB3.lt
    have hL4 : Below w.heap.size w w4 := hL3.trans (hb4.mono hL3.size)
    clear hB3 hL3 hb4 L1
    go_wp2_with (first | (refine wp_loadBlk rfl (.tmp 7) rfl w2.heap.size z rfl hB4 ?_))
    refine (kind_any z hbyt _).mono ?_
    rintro e w5 ⟨rfl, hb5⟩
    rw [L2.out, L3.out]
    have hL5 : Below w.heap.size w w5 := hL4.trans (hb5.mono hL4.size)
    clear hB4 hL4 hb5 L2 L3
    have q1 : (s == s) = true := by simp
    have q2 : (n == n) = true := by simp
    have q3 : (v == v) = true := by simp
    go_wp2_with fail
    go_ret
    exact ⟨rfl, hL5⟩
  · have hz := HNO.out hok
    rw [hok]
    clear HL HNO HCS hok
    rw [show errOf false 2 = 2 from rfl]
    subst hz
    have eq : ∀ W, (binOp .eql 28 (bval (fun _ => 0)) (bval (fun _ => 0))).run Try.prog W = .ok (.bool true) W := fun W => by rw [run_eql_block, eqB_refl]
    rcases hc with hc | ⟨c1, hc⟩ | ⟨c1, c2, hc⟩ | ⟨c1, c2, c3, hc⟩
    all_goals
      go_wp2_with (first | (refine wp_storeBlk rfl (.tmp 7) (.tmp 22) rfl w2.heap.size (fun _ => 0) _ rfl rfl hn2 ?_))
      intro w3 hB3 ho3
      have hL3 : Below w.heap.size w w3 := (hL2.alloc hL2.size _).trans (ho3.below hL2.size)
      go_wp2_with (first | (refine wp_loadBlk rfl (.tmp 7) rfl w2.heap.size (fun _ => 0) rfl hB3 ?_))
      go_ret
      exact ⟨rfl, hL3⟩

theorem run_eql_head (s t s' t' : Int) (w : World) : (binOp .eql 24 (.agg #[.int .u32 s, .int .i64 t]) (.agg #[.int .u32 s', .int .i64 t'])).run Try.prog w = .ok (.bool (s == s' && t == t')) w := by
  have hS : Try.prog.underlying 24 = some (.struct (Try.prog.fieldsOf 24)) := by kernel_rfl
  have hp : Try.prog.stoodInHeld 24 = false := by kernel_rfl
  rw [run_eql_struct, show (10000 : Nat) = 9999 + 1 from rfl, run_equalIn_agg w 9999 _ _ _ hS hp]
  simp only [Program.fieldsOf, Try.underlying24]
  clear hS hp
  go_simp
  by_cases h1 : s = s' <;> by_cases h2 : t = t' <;> simp [h1, h2]
/-- two heads have one block just if they are the same -/
theorem heads_law (s t s' t' : Int) (h : headOk s t = true) (h' : headOk s' t' = true) : eqB (headZ s t) (headZ s' t') 256 = (s == s' && t == t') := by
  have hz : headZ s t = wz (jw 4 s t nz) := by unfold headZ; rw [h]; rfl
  have hz' : headZ s' t' = wz (jw 4 s' t' nz) := by unfold headZ; rw [h']; rfl
  unfold headOk at h h'
  rw [Bool.and_eq_true, decide_eq_true_eq] at h h'
  have hb := seqB_bd h.1
  have hb' := seqB_bd h'.1
  rw [hz, hz', show (256 : Nat) = 4 * 64 from rfl, eqB_wz (jw_wds (by decide) (by omega) (by omega) nz_wds) (jw_wds (by decide) (by omega) (by omega) nz_wds), Bool.eq_iff_iff, eqB_iff, Bool.and_eq_true, beq_iff_eq, beq_iff_eq]
  constructor
  · intro hh
    exact ⟨hh 2 (by decide), hh 3 (by decide)⟩
  · rintro ⟨rfl, rfl⟩ k _
    rfl
theorem open_head {W : World} {base : Nat} {v : Value} (h : Value.okWide Try.prog W .any base 24 v) : ∃ s t : Int, v = .agg #[.int .u32 s, .int .i64 t] ∧ (0 ≤ s ∧ s < 4294967296) ∧ (-9223372036854775808 ≤ t ∧ t ≤ 9223372036854775807) := by
  obtain ⟨z, rfl, hz, h0⟩ := open_row [.u32, .i64] h (by kernel_rfl) (by kernel_rfl) (by kernel_rfl)
  have e0 := kHas (hz 0 (by decide))
  have e1 := kHas (hz 1 (by decide))
  simp [IntKind.min, IntKind.max, IntKind.signed, IntKind.bits] at e0 e1
  exact ⟨z 0, z 1, rfl, by omega, by omega⟩
end Go.Proofs.Ytahobhifafiaeaa
