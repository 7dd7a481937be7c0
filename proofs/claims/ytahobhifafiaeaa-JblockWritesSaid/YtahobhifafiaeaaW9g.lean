/- The walk of the law JblockWrites. -/
import Derived.Test.YtahobhifafiaeaaR9e
namespace Go.Proofs.Ytahobhifafiaeaa
open Go.RowKit
set_option linter.unusedVariables false

structure WwSt (w : World) (s t : Int) (a a2 c c2 : Option Addr) (n n2 : Nat) (tb : Nat → Int) (te : Nat → Bool) (m : Nat → Int) (W : World) : Prop where
  h : At W w.heap.size 24 #[.int .u32 s, .int .i64 t]
  t1 : TagRow W a n tb te
  t2 : TagRow W c n tb te
  m1 : NumRow W a2 n2 m
  m2 : NumRow W c2 n2 m
  bel : Below w.heap.size w W
theorem WwSt.below {w : World} {s t : Int} {a a2 c c2 : Option Addr} {n n2 : Nat} {tb : Nat → Int} {te : Nat → Bool} {m : Nat → Int} {W W' : World} (h : WwSt w s t a a2 c c2 n n2 tb te m W) (hb : Below W.heap.size W W') : WwSt w s t a a2 c c2 n n2 tb te m W' :=
  ⟨h.h.below hb h.h.lt, h.t1.below hb, h.t2.below hb, h.m1.below hb, h.m2.below hb, h.bel.trans (hb.mono h.bel.size)⟩

structure WwB (w : World) (s t : Int) (a a2 c c2 : Option Addr) (n n2 : Nat) (tb : Nat → Int) (te : Nat → Bool) (m : Nat → Int) (g0 g1 g2 g3 : Nat) (z1 z2 : Nat → Int) (W : World) : Prop where
  st : WwSt w s t a a2 c c2 n n2 tb te m W
  b0 : Blk W g0 28 256 z1
  b1 : Blk W g1 28 256 z1
  b2 : Blk W g2 28 256 z2
  b3 : Blk W g3 28 256 z2
theorem WwB.below {w : World} {s t : Int} {a a2 c c2 : Option Addr} {n n2 : Nat} {tb : Nat → Int} {te : Nat → Bool} {m : Nat → Int} {g0 g1 g2 g3 : Nat} {z1 z2 : Nat → Int} {W W' : World} (h : WwB w s t a a2 c c2 n n2 tb te m g0 g1 g2 g3 z1 z2 W) (hb : Below W.heap.size W W') : WwB w s t a a2 c c2 n n2 tb te m g0 g1 g2 g3 z1 z2 W' :=
  ⟨h.st.below hb, h.b0.below hb h.b0.lt, h.b1.below hb h.b1.lt, h.b2.below hb h.b2.lt, h.b3.below hb h.b3.lt⟩

set_option maxRecDepth 100000 in
set_option maxHeartbeats 8000000 in
theorem writes_walk (s t : Int) (a : Option Addr) (n cap : Nat) (tb : Nat → Int) (te : Nat → Bool) (a2 : Option Addr) (n2 cap2 : Nat) (m : Nat → Int) (cnt sum : Int)
    (hs : 0 ≤ s ∧ s < 4294967296) (ht : -9223372036854775808 ≤ t ∧ t ≤ 9223372036854775807) (hc : -9223372036854775808 ≤ cnt ∧ cnt ≤ 9223372036854775807) (hv : 0 ≤ sum ∧ sum < 4294967296)
    (htb : Wds tb) (hm : Wds m) (hn : (n : Int) ≤ 9223372036854775807) (hn2 : (n2 : Int) ≤ 9223372036854775807) (hna : a = none → n = 0 ∧ cap = 0) (hnm : a2 = none → n2 = 0 ∧ cap2 = 0) (w : World) (hT : TagRow w a n tb te) (hM : NumRow w a2 n2 m) :
    Calls Try.prog 3 #[.agg #[.int .u32 s, .int .i64 t], .slice a n cap, .slice a2 n2 cap2, .int .i64 cnt, .int .u32 sum] w fun e w' => e = .returned (.bool true) ∧ Below w.heap.size w w' := by
  have HS := Lib.hid hs
  have HTT := Lib.hid ht
  have HC := Lib.hid hc
  have HV := Lib.hid hv
  have HTB := Lib.hid htb
  have HMW := Lib.hid hm
  have HNA := Lib.hid hna
  have HNM := Lib.hid hnm
  have HT := Lib.hid hT
  have HM := Lib.hid hM
  clear hs ht hc hv htb hm hna hnm hT hM
  go_enter Try.func3, Try.ntmps3
  by_cases h1 : n ≤ 1000
  rotate_left
  · have d : (1000 : Int) < (n : Int) := by omega
    go_wp2_with fail
    go_ret
    exact ⟨rfl, (Below.refl _ _).alloc (Nat.le_refl _) _⟩
  by_cases h2 : n2 ≤ 1000
  rotate_left
  · have d : (1000 : Int) < (n2 : Int) := by omega
    go_wp2_with fail
    go_ret
    exact ⟨rfl, (Below.refl _ _).alloc (Nat.le_refl _) _⟩
  obtain ⟨i0, hi, hz0, hz1, hz2⟩ := info_parts info_tag'
  obtain ⟨j0, hj, hy0, hy1, hy2⟩ := info_parts info_u32
  have hbt : ∀ W : World, (Instr.buildSlice 25 0 #[]).run Try.prog W = .ok (.slice (some ⟨W.heap.size, 0, none⟩) 0 0) (W.alloc (.cells #[] 69)) := fun W => by kernel_rfl
  have hbn : ∀ W : World, (Instr.buildSlice 26 0 #[]).run Try.prog W = .ok (.slice (some ⟨W.heap.size, 0, none⟩) 0 0) (W.alloc (.cells #[] 22)) := fun W => by kernel_rfl
  have hW0 : Hid (At (w.alloc (.cells #[.int .u32 s, .int .i64 t] 24)) w.heap.size 24 #[.int .u32 s, .int .i64 t]) := At.new _ _ _
  have hL0 : Hid (Below w.heap.size w (w.alloc (.cells #[.int .u32 s, .int .i64 t] 24))) := (Below.refl _ _).alloc (Nat.le_refl _) _
  have hown1 : ((w.alloc (.cells #[.int .u32 s, .int .i64 t] 24)).alloc (.cells #[] 69)).ownsRow (w.heap.size + 1) 69 2 (.slice (some ⟨w.heap.size + 1, 0, none⟩) 0 0) 0 [] := by
    have h := own_nil (w.alloc (.cells #[.int .u32 s, .int .i64 t] 24)) 69 2 (w.heap.size + 1) (by simp)
    simp only [World.size_alloc] at h
    exact h
  have HOWN1 := Lib.hid hown1
  have hL1 : Hid (Below (w.heap.size + 1) (w.alloc (.cells #[.int .u32 s, .int .i64 t] 24)) ((w.alloc (.cells #[.int .u32 s, .int .i64 t] 24)).alloc (.cells #[] 69))) := (Below.refl _ _).alloc (by simp) _
  have HT1 : Hid (TagRow ((w.alloc (.cells #[.int .u32 s, .int .i64 t] 24)).alloc (.cells #[] 69)) a n tb te) := HT.out.below (hL0.out.trans (hL1.out.mono (by omega)))
  clear hown1
  go_wp2_with (first | (refine wpList_copy rfl (.tmp 37) (.tmp 38) 25 rfl (w.heap.size + 1) 69 i0 (.agg #[.int .u32 0, .bool false]) 2 8 Try.underlying25 hi hz0 hz1 hz2 rfl (by decide) (w.heap.size + 1) rfl HOWN1.out a n cap (Tc tb te n) rfl HNA.out (Tc_length _ _ _) (fun ad had => by have h := HT1.out; rw [had] at h; exact tags_news h) (Tc_one _ _ _) (by unfold maxLen; omega) (by omega) (by simp) ?rest))
  intro v3 w3 hown3 hg3
  obtain ⟨c, ccap, rfl, ht3, hcb, hcc⟩ := own_tags hown3
  have hL03 : Below (w.heap.size + 1) (w.alloc (.cells #[.int .u32 s, .int .i64 t] 24)) w3 := hL1.out.grown hg3 (by simp) (fun j e => by cases e; omega)
  have hH3 : At w3 w.heap.size 24 #[.int .u32 s, .int .i64 t] := hW0.out.below hL03 (by omega)
  have hL3 : Below w.heap.size w w3 := hL0.out.trans (hL03.mono (by omega))
  have hT3 := HT.out.below hL3
  have hM3 := HM.out.below hL3
  have hsz3 := hH3.lt
  clear hown3 hg3 hL03 HOWN1 hL1 HT1 hW0 hL0 hcb hcc
  have hown4 := own_nil w3 22 1 (w.heap.size + 1) (by omega)
  have HM4 : Hid (NumRow (w3.alloc (.cells #[] 22)) a2 n2 m) := hM3.below ((Below.refl _ _).alloc (Nat.le_refl _) _)
  have HOWN4 := Lib.hid hown4
  clear hown4
  have HH3 := Lib.hid hH3
  have HT3 := Lib.hid ht3
  clear hH3 ht3
  go_wp2_with (first | (refine wpList_copy rfl (.tmp 40) (.tmp 41) 26 rfl (w.heap.size + 1) 22 j0 (.int .u32 0) 1 4 Try.underlying26 hj hy0 hy1 hy2 rfl (by decide) w3.heap.size rfl HOWN4.out a2 n2 cap2 (Ks .u32 n2 m) rfl HNM.out (by rw [Ks_length, Nat.mul_one]) (fun ad had => by have h := HM4.out; rw [had] at h; exact nums_news h) (fun u hu => by obtain ⟨i, _, rfl⟩ := List.mem_map.1 hu; rfl) (by unfold maxLen; omega) (by omega) (by simp; omega) ?rest2))
  intro v5 w5 hown5 hg5
  obtain ⟨c2, ccap2, rfl, hm5⟩ := own_nums' hown5
  have hb35 : Below w3.heap.size w3 w5 := ((Below.refl w3.heap.size w3).alloc (Nat.le_refl _) _).grown hg5 (by simp) (fun j e => by cases e; omega)
  have st5 : WwSt w s t a a2 c c2 n n2 tb te m w5 := ⟨HH3.out.below hb35 hsz3, hT3.below hb35, HT3.out.below hb35, hM3.below hb35, hm5, hL3.trans (hb35.mono hL3.size)⟩
  clear hown5 hg5 hb35 hm5 HH3 HT3 hT3 hM3 hL3 hsz3 HOWN4 HM4 hbt hbn
  have hal := zero_block
  go_wp2_with (first | (refine wp_loadAtG rfl 24 (.tmp 5) rfl w.heap.size #[.int .u32 s, .int .i64 t] _ rfl st5.h Try.underlying24 rfl (by kernel_rfl) ?_))
  refine (writeHead_any s t _ HS.out HTT.out).mono ?_
  rintro e w6 ⟨rfl, hb⟩
  have st6 := st5.below hb
  clear hb st5 
  have hn6 := Blk.new w6 28 256 (fun _ => 0)
  go_wp2_with (first | (refine wp_storeBlk rfl (.tmp 13) (.tmp 46) rfl w6.heap.size (headZ s t) _ rfl rfl hn6 ?_))
  intro w7 hB0_7 ho
  have hb : Below w6.heap.size w6 w7 := ((Below.refl _ _).alloc (Nat.le_refl _) _).trans (ho.below (Nat.le_refl _))
  have st7 := st6.below hb
  clear hb ho hn6 st6 
  go_wp2_with (first | (refine wp_loadAtG rfl 24 (.tmp 5) rfl w.heap.size #[.int .u32 s, .int .i64 t] _ rfl st7.h Try.underlying24 rfl (by kernel_rfl) ?_))
  refine (rWriteHead_any s t _ HS.out HTT.out).mono ?_
  rintro e w8 ⟨rfl, hb⟩
  have st8 := st7.below hb
  have hB0_8 := hB0_7.below hb hB0_7.lt
  clear hb st7 hB0_7
  have hn8 := Blk.new w8 28 256 (fun _ => 0)
  go_wp2_with (first | (refine wp_storeBlk rfl (.tmp 15) (.tmp 51) rfl w8.heap.size (headZ s t) _ rfl rfl hn8 ?_))
  intro w9 hB1_9 ho
  have hb : Below w8.heap.size w8 w9 := ((Below.refl _ _).alloc (Nat.le_refl _) _).trans (ho.below (Nat.le_refl _))
  have st9 := st8.below hb
  have hB0_9 := hB0_8.below hb hB0_8.lt
  clear hb ho hn8 st8 hB0_8
  have c0 := st9.h.cell (i := 0) rfl
  go_wp2_with fail
  clear c0
  refine (writeDesc_any s c n ccap tb te HS.out HTB.out hn _ st9.t2).mono ?_
  rintro e w10 ⟨rfl, hb⟩
  have st10 := st9.below hb
  have hB0_10 := hB0_9.below hb hB0_9.lt
  have hB1_10 := hB1_9.below hb hB1_9.lt
  clear hb st9 hB0_9 hB1_9
  have hn10 := Blk.new w10 28 256 (fun _ => 0)
  go_wp2_with (first | (refine wp_storeBlk rfl (.tmp 17) (.tmp 58) rfl w10.heap.size (descZ s n tb te) _ rfl rfl hn10 ?_))
  intro w11 hB2_11 ho
  have hb : Below w10.heap.size w10 w11 := ((Below.refl _ _).alloc (Nat.le_refl _) _).trans (ho.below (Nat.le_refl _))
  have st11 := st10.below hb
  have hB0_11 := hB0_10.below hb hB0_10.lt
  have hB1_11 := hB1_10.below hb hB1_10.lt
  clear hb ho hn10 st10 hB0_10 hB1_10
  have c0 := st11.h.cell (i := 0) rfl
  go_wp2_with fail
  clear c0
  refine (rWriteDesc_any s a n cap tb te HS.out HTB.out hn _ st11.t1).mono ?_
  rintro e w12 ⟨rfl, hb⟩
  have st12 := st11.below hb
  have hB0_12 := hB0_11.below hb hB0_11.lt
  have hB1_12 := hB1_11.below hb hB1_11.lt
  have hB2_12 := hB2_11.below hb hB2_11.lt
  clear hb st11 hB0_11 hB1_11 hB2_11
  have hn12 := Blk.new w12 28 256 (fun _ => 0)
  go_wp2_with (first | (refine wp_storeBlk rfl (.tmp 19) (.tmp 65) rfl w12.heap.size (descZ s n tb te) _ rfl rfl hn12 ?_))
  intro w13 hB3_13 ho
  have hb : Below w12.heap.size w12 w13 := ((Below.refl _ _).alloc (Nat.le_refl _) _).trans (ho.below (Nat.le_refl _))
  have st13 := st12.below hb
  have hB0_13 := hB0_12.below hb hB0_12.lt
  have hB1_13 := hB1_12.below hb hB1_12.lt
  have hB2_13 := hB2_12.below hb hB2_12.lt
  clear hb ho hn12 st12 hB0_12 hB1_12 hB2_12
  have sb : WwB w s t a a2 c c2 n n2 tb te m w6.heap.size w8.heap.size w10.heap.size w12.heap.size (headZ s t) (descZ s n tb te) w13 := ⟨st13, hB0_13, hB1_13, hB2_13, hB3_13⟩
  clear st13 hB0_13 hB1_13 hB2_13 hB3_13
  generalize w6.heap.size = g0 at sb ⊢
  generalize w8.heap.size = g1 at sb ⊢
  generalize w10.heap.size = g2 at sb ⊢
  generalize w12.heap.size = g3 at sb ⊢
  have hq := fun W => run_neq_block (headZ s t) (headZ s t) W
  have hq2 := fun W => run_neq_block (descZ s n tb te) (descZ s n tb te) W
  rw [eqB_refl] at hq hq2
  clear hal
  have hx1 : (errOf (headOk s t) 2 != errOf (headOk s t) 2) = false := by simp
  have hx2 : (errOf (descOk s n tb) 2 != errOf (descOk s n tb) 2) = false := by simp
  generalize errOf (headOk s t) 2 = e1 at hx1 ⊢
  generalize errOf (descOk s n tb) 2 = e2 at hx2 ⊢
  have c0 := sb.st.h.cell (i := 0) rfl
  go_wp2_with (first | (refine wp_loadBlkG rfl (.tmp 13) rfl g0 (headZ s t) rfl sb.b0 ?_) | (refine wp_loadBlkG rfl (.tmp 15) rfl g1 (headZ s t) rfl sb.b1 ?_) | (refine wp_loadBlkG rfl (.tmp 17) rfl g2 (descZ s n tb te) rfl sb.b2 ?_) | (refine wp_loadBlkG rfl (.tmp 19) rfl g3 (descZ s n tb te) rfl sb.b3 ?_))
  clear hq hq2 hx1 hx2 c0
  have st20 := sb.st
  clear sb
  generalize w13 = w20 at st20 ⊢
  have hal := zero_block
  refine (writeRevoke_any s c2 n2 ccap2 m HS.out HMW.out hn2 _ st20.m2).mono ?_
  rintro e w21 ⟨rfl, hb⟩
  have st21 := st20.below hb
  clear hb st20 
  have hn21 := Blk.new w21 28 256 (fun _ => 0)
  go_wp2_with (first | (refine wp_storeBlk rfl (.tmp 21) (.tmp 90) rfl w21.heap.size (revZ s n2 m) _ rfl rfl hn21 ?_))
  intro w22 hB4_22 ho
  have hb : Below w21.heap.size w21 w22 := ((Below.refl _ _).alloc (Nat.le_refl _) _).trans (ho.below (Nat.le_refl _))
  have st22 := st21.below hb
  clear hb ho hn21 st21 
  have c0 := st22.h.cell (i := 0) rfl
  go_wp2_with fail
  clear c0
  refine (rWriteRevoke_any s a2 n2 cap2 m HS.out HMW.out hn2 _ st22.m1).mono ?_
  rintro e w23 ⟨rfl, hb⟩
  have st23 := st22.below hb
  have hB4_23 := hB4_22.below hb hB4_22.lt
  clear hb st22 hB4_22
  have hn23 := Blk.new w23 28 256 (fun _ => 0)
  go_wp2_with (first | (refine wp_storeBlk rfl (.tmp 23) (.tmp 97) rfl w23.heap.size (revZ s n2 m) _ rfl rfl hn23 ?_))
  intro w24 hB5_24 ho
  have hb : Below w23.heap.size w23 w24 := ((Below.refl _ _).alloc (Nat.le_refl _) _).trans (ho.below (Nat.le_refl _))
  have st24 := st23.below hb
  have hB4_24 := hB4_23.below hb hB4_23.lt
  clear hb ho hn23 st23 hB4_23
  have c0 := st24.h.cell (i := 0) rfl
  go_wp2_with fail
  clear c0
  refine (writeCommit_any s cnt sum _ HS.out HC.out HV.out).mono ?_
  rintro e w25 ⟨rfl, hb⟩
  have st25 := st24.below hb
  have hB4_25 := hB4_24.below hb hB4_24.lt
  have hB5_25 := hB5_24.below hb hB5_24.lt
  clear hb st24 hB4_24 hB5_24
  have hn25 := Blk.new w25 28 256 (fun _ => 0)
  go_wp2_with (first | (refine wp_storeBlk rfl (.tmp 25) (.tmp 105) rfl w25.heap.size (commitZ s cnt sum) _ rfl rfl hn25 ?_))
  intro w26 hB6_26 ho
  have hb : Below w25.heap.size w25 w26 := ((Below.refl _ _).alloc (Nat.le_refl _) _).trans (ho.below (Nat.le_refl _))
  have st26 := st25.below hb
  have hB4_26 := hB4_25.below hb hB4_25.lt
  have hB5_26 := hB5_25.below hb hB5_25.lt
  clear hb ho hn25 st25 hB4_25 hB5_25
  have c0 := st26.h.cell (i := 0) rfl
  go_wp2_with fail
  clear c0
  refine (rWriteCommit_any s cnt sum _ HS.out HC.out HV.out).mono ?_
  rintro e w27 ⟨rfl, hb⟩
  have st27 := st26.below hb
  have hB4_27 := hB4_26.below hb hB4_26.lt
  have hB5_27 := hB5_26.below hb hB5_26.lt
  have hB6_27 := hB6_26.below hb hB6_26.lt
  clear hb st26 hB4_26 hB5_26 hB6_26
  have hn27 := Blk.new w27 28 256 (fun _ => 0)
  go_wp2_with (first | (refine wp_storeBlk rfl (.tmp 27) (.tmp 113) rfl w27.heap.size (commitZ s cnt sum) _ rfl rfl hn27 ?_))
  intro w28 hB7_28 ho
  have hb : Below w27.heap.size w27 w28 := ((Below.refl _ _).alloc (Nat.le_refl _) _).trans (ho.below (Nat.le_refl _))
  have st28 := st27.below hb
  have hB4_28 := hB4_27.below hb hB4_27.lt
  have hB5_28 := hB5_27.below hb hB5_27.lt
  have hB6_28 := hB6_27.below hb hB6_27.lt
  clear hb ho hn27 st27 hB4_27 hB5_27 hB6_27
  have sb : WwB w s t a a2 c c2 n n2 tb te m w21.heap.size w23.heap.size w25.heap.size w27.heap.size (revZ s n2 m) (commitZ s cnt sum) w28 := ⟨st28, hB4_28, hB5_28, hB6_28, hB7_28⟩
  clear st28 hB4_28 hB5_28 hB6_28 hB7_28
  generalize w21.heap.size = h0 at sb ⊢
  generalize w23.heap.size = h1 at sb ⊢
  generalize w25.heap.size = h2 at sb ⊢
  generalize w27.heap.size = h3 at sb ⊢
  have hq := fun W => run_eql_block (revZ s n2 m) (revZ s n2 m) W
  have hq2 := fun W => run_eql_block (commitZ s cnt sum) (commitZ s cnt sum) W
  rw [eqB_refl] at hq hq2
  clear hal
  have hx1 : (errOf (revOk s n2 m) 2 == errOf (revOk s n2 m) 2) = true := by simp
  have hx2 : (errOf (commitOk s cnt) 2 == errOf (commitOk s cnt) 2) = true := by simp
  generalize errOf (revOk s n2 m) 2 = e3 at hx1 ⊢
  generalize errOf (commitOk s cnt) 2 = e4 at hx2 ⊢
  go_wp2_with (first | (refine wp_loadBlkG rfl (.tmp 21) rfl h0 (revZ s n2 m) rfl sb.b0 ?_) | (refine wp_loadBlkG rfl (.tmp 23) rfl h1 (revZ s n2 m) rfl sb.b1 ?_) | (refine wp_loadBlkG rfl (.tmp 25) rfl h2 (commitZ s cnt sum) rfl sb.b2 ?_) | (refine wp_loadBlkG rfl (.tmp 27) rfl h3 (commitZ s cnt sum) rfl sb.b3 ?_))
  clear hq hq2
  refine (sameTags_true c a n ccap cap tb tb te te _ hn sb.st.t2 sb.st.t1 (fun i _ => ⟨rfl, rfl⟩)).mono ?_
  rintro e w40 ⟨rfl, nn, rfl⟩
  have HBL := Lib.hid sb.st.bel
  have sb2 := sb.below (bel_drewN (Below.refl _ _) nn)
  clear sb
  go_wp2_with fail
  refine (sameNum_any c2 a2 n2 ccap2 cap2 m m _ hn2 sb2.st.m2 sb2.st.m1).mono ?_
  rintro e w41 ⟨rfl, nn2, rfl⟩
  have sb3 := sb2.below (bel_drewN (Below.refl _ _) nn2)
  clear sb2
  rw [eqB_refl]
  go_wp2_with fail
  go_ret
  exact ⟨rfl, bel_drewN HBL.out _⟩
end Go.Proofs.Ytahobhifafiaeaa
