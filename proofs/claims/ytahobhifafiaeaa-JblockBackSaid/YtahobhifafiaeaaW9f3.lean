/- The walk of the law JblockBack, part 3 (printed by gen_back.py). -/
import Derived.Test.YtahobhifafiaeaaFact9
namespace Go.Proofs.Ytahobhifafiaeaa
open Go.RowKit
set_option linter.unusedVariables false

set_option maxRecDepth 100000 in
set_option maxHeartbeats 8000000 in
theorem back9_1100 (s t n v : Int) (la ma : Option Addr) (ln lcap mn mcap : Nat) (tb mm : Nat → Int) (te : Nat → Bool) (hs : 0 ≤ s ∧ s < 4294967296) (ht : -9223372036854775808 ≤ t ∧ t ≤ 9223372036854775807) (hn : -9223372036854775808 ≤ n ∧ n ≤ 9223372036854775807) (hv : 0 ≤ v ∧ v < 4294967296)
    (htb : Wds tb) (hmm : Wds mm) (hl1 : ln ≤ 1000) (hm1 : mn ≤ 1000) (w : World) (hTl : TagRow w la ln tb te) (hTm : NumRow w ma mn mm) (hE : headOk s t = true) (hF : descOk s ln tb = true) (hG : revOk s mn mm = false) (hI : commitOk s n = false) :
    Calls Try.prog 9 #[.agg #[.int .u32 s, .int .i64 t], .slice la ln lcap, .slice ma mn mcap, .int .i64 n, .int .u32 v] w fun e w' => e = .returned (.bool true) ∧ Below w.heap.size w w' := by
  have WA := fun W => writeHead_any s t W hs ht
  have WB := fun W (h : TagRow W la ln tb te) => writeDesc_any s la ln lcap tb te hs htb (by omega) W h
  have WC := fun W (h : NumRow W ma mn mm) => writeRevoke_any s ma mn mcap mm hs hmm (by omega) W h
  have WD := fun W => writeCommit_any s n v W hs hn hv
  rw [hE] at WA
  rw [hF] at WB
  rw [hG] at WC
  rw [hI] at WD
  obtain ⟨fA, gA⟩ := factA s t _ hE
  obtain ⟨fB, gB⟩ := factB s ln tb te htb _ hF
  obtain ⟨fC, gC⟩ := factC s mn mm hmm _ hG
  obtain ⟨fD, gD⟩ := factD s n v hv _ hI
  clear hE hF hG hI
  generalize headZ s t = za at WA fA gA
  generalize descZ s ln tb te = zb at WB fB gB
  generalize revZ s mn mm = zc at WC fC gC
  generalize commitZ s n v = zd at WD fD gD
  have HWA := Lib.hid WA
  have HWB := Lib.hid WB
  have HWC := Lib.hid WC
  have HWD := Lib.hid WD
  have GA := Lib.hid (gA rfl)
  clear gA
  have GB := Lib.hid (gB rfl)
  clear gB
  clear gC
  clear gD
  have FA := Lib.hid fA
  have FB := Lib.hid fB
  have FC := Lib.hid fC
  have FD := Lib.hid fD
  have TL := Lib.hid hTl
  have TM := Lib.hid hTm
  clear WA WB WC WD fA fB fC fD hTl hTm htb hmm
  have qs : (s != s) = false := by simp
  have qn : (n != n) = false := by simp
  have qv : (v != v) = false := by simp
  have hA0 : Hid (At (w.alloc (.cells #[.int .u32 s, .int .i64 t] 24)) w.heap.size 24 #[.int .u32 s, .int .i64 t]) := At.new _ _ _
  have hb0 : Hid (Below w.heap.size w (w.alloc (.cells #[.int .u32 s, .int .i64 t] 24))) := (Below.refl _ _).alloc (Nat.le_refl _) _
  go_enter Try.func9, Try.ntmps9
  go_wp2_with fail
  refine (awake9 _).mono ?_
  rintro e w1 ⟨rfl, hb1⟩
  have hA1 := hA0.out.below hb1 hA0.out.lt
  have hL1 : Below w.heap.size w w1 := hb0.out.trans (hb1.mono hb0.out.size)
  have TL1 := Lib.hid (TL.out.below hL1)
  have TM1 := Lib.hid (TM.out.below hL1)
  clear hA0 hb0 hb1 TL TM
  have hal := zero_block
  have hz0 := zero_head
  go_wp2_with (first | (refine wp_loadAtG rfl 24 (.tmp 5) rfl w.heap.size #[.int .u32 s, .int .i64 t] _ rfl hA1 Try.underlying24 rfl (by kernel_rfl) ?_))
  refine (HWA.out _).mono ?_
  rintro e w2 ⟨rfl, hb2⟩
  rw [show errOf true 2 = 0 from rfl]
  have hA2 := hA1.below hb2 hA1.lt
  have hL2 : Below w.heap.size w w2 := hL1.trans (hb2.mono hL1.size)
  have TL2 := Lib.hid (TL1.out.below hb2)
  have TM2 := Lib.hid (TM1.out.below hb2)
  clear hA1 hL1 TL1 TM1 hb2 
  have hn2 := Blk.new w2 28 256 (fun _ => 0)
  go_wp2_with (first | (refine wp_storeBlk rfl (.tmp 11) (.tmp 44) rfl w2.heap.size za _ rfl rfl hn2 ?_))
  intro w3 hXa3 ho3
  have hc3 : Below w2.heap.size w2 w3 := ((Below.refl _ _).alloc (Nat.le_refl _) _).trans (ho3.below (Nat.le_refl _))
  clear hn2 ho3
  have hA3 := hA2.below hc3 hA2.lt
  have hL3 : Below w.heap.size w w3 := hL2.trans (hc3.mono hL2.size)
  have TL3 := Lib.hid (TL2.out.below hc3)
  have TM3 := Lib.hid (TM2.out.below hc3)
  clear hA2 hL2 TL2 TM2 hc3 
  have c0 := hA3.cell (i := 0) rfl
  go_wp2_with fail
  refine (HWB.out _ TL3.out).mono ?_
  rintro e w4 ⟨rfl, hb4⟩
  rw [show errOf true 2 = 0 from rfl]
  clear c0
  have hA4 := hA3.below hb4 hA3.lt
  have hL4 : Below w.heap.size w w4 := hL3.trans (hb4.mono hL3.size)
  have TL4 := Lib.hid (TL3.out.below hb4)
  have TM4 := Lib.hid (TM3.out.below hb4)
  have hXa4 := hXa3.below hb4 hXa3.lt
  clear hA3 hL3 TL3 TM3 hb4 hXa3
  have hn4 := Blk.new w4 28 256 (fun _ => 0)
  go_wp2_with (first | (refine wp_storeBlk rfl (.tmp 13) (.tmp 51) rfl w4.heap.size zb _ rfl rfl hn4 ?_))
  intro w5 hXb5 ho5
  have hc5 : Below w4.heap.size w4 w5 := ((Below.refl _ _).alloc (Nat.le_refl _) _).trans (ho5.below (Nat.le_refl _))
  clear hn4 ho5
  have hA5 := hA4.below hc5 hA4.lt
  have hL5 : Below w.heap.size w w5 := hL4.trans (hc5.mono hL4.size)
  have TL5 := Lib.hid (TL4.out.below hc5)
  have TM5 := Lib.hid (TM4.out.below hc5)
  have hXa5 := hXa4.below hc5 hXa4.lt
  clear hA4 hL4 TL4 TM4 hc5 hXa4
  have c0 := hA5.cell (i := 0) rfl
  go_wp2_with fail
  refine (HWC.out _ TM5.out).mono ?_
  rintro e w6 ⟨rfl, hb6⟩
  rw [show errOf false 2 = 2 from rfl]
  clear c0
  have hA6 := hA5.below hb6 hA5.lt
  have hL6 : Below w.heap.size w w6 := hL5.trans (hb6.mono hL5.size)
  have TL6 := Lib.hid (TL5.out.below hb6)
  have TM6 := Lib.hid (TM5.out.below hb6)
  have hXa6 := hXa5.below hb6 hXa5.lt
  have hXb6 := hXb5.below hb6 hXb5.lt
  clear hA5 hL5 TL5 TM5 hb6 hXa5 hXb5
  have hn6 := Blk.new w6 28 256 (fun _ => 0)
  go_wp2_with (first | (refine wp_storeBlk rfl (.tmp 15) (.tmp 58) rfl w6.heap.size zc _ rfl rfl hn6 ?_))
  intro w7 hXc7 ho7
  have hc7 : Below w6.heap.size w6 w7 := ((Below.refl _ _).alloc (Nat.le_refl _) _).trans (ho7.below (Nat.le_refl _))
  clear hn6 ho7
  have hA7 := hA6.below hc7 hA6.lt
  have hL7 : Below w.heap.size w w7 := hL6.trans (hc7.mono hL6.size)
  have TL7 := Lib.hid (TL6.out.below hc7)
  have TM7 := Lib.hid (TM6.out.below hc7)
  have hXa7 := hXa6.below hc7 hXa6.lt
  have hXb7 := hXb6.below hc7 hXb6.lt
  clear hA6 hL6 TL6 TM6 hc7 hXa6 hXb6
  have c0 := hA7.cell (i := 0) rfl
  go_wp2_with fail
  refine (HWD.out _).mono ?_
  rintro e w8 ⟨rfl, hb8⟩
  rw [show errOf false 2 = 2 from rfl]
  clear c0
  have hA8 := hA7.below hb8 hA7.lt
  have hL8 : Below w.heap.size w w8 := hL7.trans (hb8.mono hL7.size)
  have TL8 := Lib.hid (TL7.out.below hb8)
  have TM8 := Lib.hid (TM7.out.below hb8)
  have hXa8 := hXa7.below hb8 hXa7.lt
  have hXb8 := hXb7.below hb8 hXb7.lt
  have hXc8 := hXc7.below hb8 hXc7.lt
  clear hA7 hL7 TL7 TM7 hb8 hXa7 hXb7 hXc7
  have hn8 := Blk.new w8 28 256 (fun _ => 0)
  go_wp2_with (first | (refine wp_storeBlk rfl (.tmp 17) (.tmp 66) rfl w8.heap.size zd _ rfl rfl hn8 ?_))
  intro w9 hXd9 ho9
  have hc9 : Below w8.heap.size w8 w9 := ((Below.refl _ _).alloc (Nat.le_refl _) _).trans (ho9.below (Nat.le_refl _))
  clear hn8 ho9
  have hA9 := hA8.below hc9 hA8.lt
  have hL9 : Below w.heap.size w w9 := hL8.trans (hc9.mono hL8.size)
  have TL9 := Lib.hid (TL8.out.below hc9)
  have TM9 := Lib.hid (TM8.out.below hc9)
  have hXa9 := hXa8.below hc9 hXa8.lt
  have hXb9 := hXb8.below hc9 hXb8.lt
  have hXc9 := hXc8.below hc9 hXc8.lt
  clear hA8 hL8 TL8 TM8 hc9 hXa8 hXb8 hXc8
  clear HWA HWB HWC HWD hal
  go_wp2_with (first | (refine wp_loadBlk rfl (.tmp 11) rfl w2.heap.size za rfl hXa9 ?_))
  refine (readHead_any za FA.out.byt _).mono ?_
  rintro e w10 ⟨rfl, hb10⟩
  rw [show headRd za = true from FA.out.a.2.2.2, show errOf true 90 = 0 from rfl]
  rw [GA.out.1, GA.out.2]
  have hA10 := hA9.below hb10 hA9.lt
  have hL10 : Below w.heap.size w w10 := hL9.trans (hb10.mono hL9.size)
  have TL10 := Lib.hid (TL9.out.below hb10)
  have TM10 := Lib.hid (TM9.out.below hb10)
  have hXa10 := hXa9.below hb10 hXa9.lt
  have hXb10 := hXb9.below hb10 hXb9.lt
  have hXc10 := hXc9.below hb10 hXc9.lt
  have hXd10 := hXd9.below hb10 hXd9.lt
  clear hA9 hL9 TL9 TM9 hb10 hXa9 hXb9 hXc9 hXd9
  have hcx : Below w10.heap.size w10 (w10.alloc (.cells #[.int .u32 s, .int .i64 t] 24)) := (Below.refl _ _).alloc (Nat.le_refl _) _
  have hH : At (w10.alloc (.cells #[.int .u32 s, .int .i64 t] 24)) w10.heap.size 24 #[.int .u32 s, .int .i64 t] := At.new _ _ _
  have hAx := hA10.below hcx hA10.lt
  have hLx : Below w.heap.size w (w10.alloc (.cells #[.int .u32 s, .int .i64 t] 24)) := hL10.trans (hcx.mono hL10.size)
  have TLx := Lib.hid (TL10.out.below hcx)
  have TMx := Lib.hid (TM10.out.below hcx)
  have hXax := hXa10.below hcx hXa10.lt
  have hXbx := hXb10.below hcx hXb10.lt
  have hXcx := hXc10.below hcx hXc10.lt
  have hXdx := hXd10.below hcx hXd10.lt
  clear hA10 hL10 TL10 TM10 hcx hXa10 hXb10 hXc10 hXd10
  have HLx := Lib.hid hLx
  clear hLx
  go_wp2_with (first | (refine wp_loadBlk rfl (.tmp 13) rfl w4.heap.size zb rfl hXbx ?_))
  refine (readDesc_any zb FB.out.byt _).mono ?_
  rintro e w11 ⟨hb11, ⟨hr, rfl⟩ | ⟨hr, gd, capd, rfl, hownD⟩⟩
  · rw [show descRd zb = true from FB.out.a.1] at hr; cases hr
  have hLx := HLx.out
  clear HLx
  have hH11 := hH.below hb11 hH.lt
  clear hH hr hz0
  have hA11 := hAx.below hb11 hAx.lt
  have hL11 : Below w.heap.size w w11 := hLx.trans (hb11.mono hLx.size)
  have TL11 := Lib.hid (TLx.out.below hb11)
  have TM11 := Lib.hid (TMx.out.below hb11)
  have hXa11 := hXax.below hb11 hXax.lt
  have hXb11 := hXbx.below hb11 hXbx.lt
  have hXc11 := hXcx.below hb11 hXcx.lt
  have hXd11 := hXdx.below hb11 hXdx.lt
  clear hAx hLx TLx TMx hb11 hXax hXbx hXcx hXdx
  obtain ⟨B1, B2, B3⟩ := GB.out
  rw [B1, B2]
  rw [B2] at hownD
  have TD : TagRow w11 (some ⟨gd, 0, none⟩) ln (descT zb) (descE zb) := by
    obtain ⟨a, cp, he, ht, _⟩ := own_tags hownD
    injection he with h1; rw [h1]; exact ht
  have B3' := Lib.hid B3
  have HTD11 := Lib.hid TD
  clear TD hownD B1 B2 B3
  go_wp2_with (first | (refine wp_loadBlk rfl (.tmp 15) rfl w6.heap.size zc rfl hXc11 ?_))
  refine (readRevoke_any zc FC.out.byt _).mono ?_
  rintro e w12 ⟨hb12, ⟨hr, rfl⟩ | ⟨hr, gr, capr, rfl, hownR⟩⟩
  rotate_left
  · rw [show revRd zc = false from FC.out.a.2.2.1] at hr; cases hr
  have hH12 := hH11.below hb12 hH11.lt
  clear hH11 hr
  have HTD12 := Lib.hid (HTD11.out.below hb12)
  clear HTD11
  have hA12 := hA11.below hb12 hA11.lt
  have hL12 : Below w.heap.size w w12 := hL11.trans (hb12.mono hL11.size)
  have TL12 := Lib.hid (TL11.out.below hb12)
  have TM12 := Lib.hid (TM11.out.below hb12)
  have hXa12 := hXa11.below hb12 hXa11.lt
  have hXb12 := hXb11.below hb12 hXb11.lt
  have hXc12 := hXc11.below hb12 hXc11.lt
  have hXd12 := hXd11.below hb12 hXd11.lt
  clear hA11 hL11 TL11 TM11 hb12 hXa11 hXb11 hXc11 hXd11
  go_wp2_with (first | (refine wp_loadBlk rfl (.tmp 17) rfl w8.heap.size zd rfl hXd12 ?_))
  refine (readCommit_any zd FD.out.byt _).mono ?_
  rintro e w13 ⟨rfl, hb13⟩
  rw [commitV, show commitRd zd = false from FD.out.a.2.1, if_neg Bool.false_ne_true]
  have hH13 := hH12.below hb13 hH12.lt
  clear hH12
  have HTD13 := Lib.hid (HTD12.out.below hb13)
  clear HTD12
  have hA13 := hA12.below hb13 hA12.lt
  have hL13 : Below w.heap.size w w13 := hL12.trans (hb13.mono hL12.size)
  have TL13 := Lib.hid (TL12.out.below hb13)
  have TM13 := Lib.hid (TM12.out.below hb13)
  have hXa13 := hXa12.below hb13 hXa12.lt
  have hXb13 := hXb12.below hb13 hXb12.lt
  have hXc13 := hXc12.below hb13 hXc12.lt
  have hXd13 := hXd12.below hb13 hXd12.lt
  clear hA12 hL12 TL12 TM12 hb13 hXa12 hXb12 hXc12 hXd12
  have qh : ∀ W, (binOp .neq 24 (.agg #[.int .u32 s, .int .i64 t]) (.agg #[.int .u32 s, .int .i64 t])).run Try.prog W = .ok (.bool false) W := fun W => (neq_of_eql (run_eql_head s t s t W)).trans (by simp)
  have c0 := hA13.cell (i := 0) rfl
  go_wp2_with (first | (refine wp_loadAtG rfl 24 (.tmp 19) rfl w10.heap.size #[.int .u32 s, .int .i64 t] _ rfl hH13 Try.underlying24 rfl (by kernel_rfl) ?_) | (refine wp_loadAtG rfl 24 (.tmp 5) rfl w.heap.size #[.int .u32 s, .int .i64 t] _ rfl hA13 Try.underlying24 rfl (by kernel_rfl) ?_))
  refine (sameTags_true (some ⟨gd, 0, none⟩) la ln capd lcap _ _ _ _ _ (by omega) HTD13.out TL13.out B3'.out).mono ?_
  rintro e w14 ⟨rfl, nn14, rfl⟩
  have hb14 : Below w13.heap.size w13 (w13.drewN nn14) := bel_drewN (Below.refl _ _) _
  generalize w13.drewN nn14 = w14 at hb14 ⊢
  have hH14 := hH13.below hb14 hH13.lt
  clear hH13 c0
  have hA14 := hA13.below hb14 hA13.lt
  have hL14 : Below w.heap.size w w14 := hL13.trans (hb14.mono hL13.size)
  have TL14 := Lib.hid (TL13.out.below hb14)
  have TM14 := Lib.hid (TM13.out.below hb14)
  have hXa14 := hXa13.below hb14 hXa13.lt
  have hXb14 := hXb13.below hb14 hXb13.lt
  have hXc14 := hXc13.below hb14 hXc13.lt
  have hXd14 := hXd13.below hb14 hXd13.lt
  clear hA13 hL13 TL13 TM13 hb14 hXa13 hXb13 hXc13 hXd13
  have c0 := hA14.cell (i := 0) rfl
  go_wp2_with (first | (refine wp_loadBlkG rfl (.tmp 11) rfl w2.heap.size za rfl hXa14 ?_))
  refine (one_any za FA.out.byt true 4 (by decide) FA.out.rd FA.out.kind _).mono ?_
  rintro e w15 ⟨rfl, hb15⟩
  clear c0
  have hA15 := hA14.below hb15 hA14.lt
  have hL15 : Below w.heap.size w w15 := hL14.trans (hb15.mono hL14.size)
  have TL15 := Lib.hid (TL14.out.below hb15)
  have TM15 := Lib.hid (TM14.out.below hb15)
  have hXa15 := hXa14.below hb15 hXa14.lt
  have hXb15 := hXb14.below hb15 hXb14.lt
  have hXc15 := hXc14.below hb15 hXc14.lt
  have hXd15 := hXd14.below hb15 hXd14.lt
  clear hA14 hL14 TL14 TM14 hb15 hXa14 hXb14 hXc14 hXd14
  go_wp2_with (first | (refine wp_loadBlkG rfl (.tmp 13) rfl w4.heap.size zb rfl hXb15 ?_))
  refine (one_any zb FB.out.byt true 1 (by decide) FB.out.rd FB.out.kind _).mono ?_
  rintro e w16 ⟨rfl, hb16⟩
  have hA16 := hA15.below hb16 hA15.lt
  have hL16 : Below w.heap.size w w16 := hL15.trans (hb16.mono hL15.size)
  have TL16 := Lib.hid (TL15.out.below hb16)
  have TM16 := Lib.hid (TM15.out.below hb16)
  have hXa16 := hXa15.below hb16 hXa15.lt
  have hXb16 := hXb15.below hb16 hXb15.lt
  have hXc16 := hXc15.below hb16 hXc15.lt
  have hXd16 := hXd15.below hb16 hXd15.lt
  clear hA15 hL15 TL15 TM15 hb16 hXa15 hXb15 hXc15 hXd15
  go_wp2_with (first | (refine wp_loadBlkG rfl (.tmp 15) rfl w6.heap.size zc rfl hXc16 ?_))
  refine (one_any zc FC.out.byt false 3 (by decide) FC.out.rd FC.out.kind _).mono ?_
  rintro e w17 ⟨rfl, hb17⟩
  have hA17 := hA16.below hb17 hA16.lt
  have hL17 : Below w.heap.size w w17 := hL16.trans (hb17.mono hL16.size)
  have TL17 := Lib.hid (TL16.out.below hb17)
  have TM17 := Lib.hid (TM16.out.below hb17)
  have hXa17 := hXa16.below hb17 hXa16.lt
  have hXb17 := hXb16.below hb17 hXb16.lt
  have hXc17 := hXc16.below hb17 hXc16.lt
  have hXd17 := hXd16.below hb17 hXd16.lt
  clear hA16 hL16 TL16 TM16 hb17 hXa16 hXb16 hXc16 hXd16
  go_wp2_with (first | (refine wp_loadBlkG rfl (.tmp 17) rfl w8.heap.size zd rfl hXd17 ?_))
  refine (one_any zd FD.out.byt false 2 (by decide) FD.out.rd FD.out.kind _).mono ?_
  rintro e w18 ⟨rfl, hb18⟩
  have hA18 := hA17.below hb18 hA17.lt
  have hL18 : Below w.heap.size w w18 := hL17.trans (hb18.mono hL17.size)
  have TL18 := Lib.hid (TL17.out.below hb18)
  have TM18 := Lib.hid (TM17.out.below hb18)
  have hXa18 := hXa17.below hb18 hXa17.lt
  have hXb18 := hXb17.below hb18 hXb17.lt
  have hXc18 := hXc17.below hb18 hXc17.lt
  have hXd18 := hXd17.below hb18 hXd17.lt
  clear hA17 hL17 TL17 TM17 hb18 hXa17 hXb17 hXc17 hXd17
  go_wp2_with fail
  go_ret
  exact ⟨rfl, hL18⟩

set_option maxRecDepth 100000 in
set_option maxHeartbeats 8000000 in
theorem back9_1101 (s t n v : Int) (la ma : Option Addr) (ln lcap mn mcap : Nat) (tb mm : Nat → Int) (te : Nat → Bool) (hs : 0 ≤ s ∧ s < 4294967296) (ht : -9223372036854775808 ≤ t ∧ t ≤ 9223372036854775807) (hn : -9223372036854775808 ≤ n ∧ n ≤ 9223372036854775807) (hv : 0 ≤ v ∧ v < 4294967296)
    (htb : Wds tb) (hmm : Wds mm) (hl1 : ln ≤ 1000) (hm1 : mn ≤ 1000) (w : World) (hTl : TagRow w la ln tb te) (hTm : NumRow w ma mn mm) (hE : headOk s t = true) (hF : descOk s ln tb = true) (hG : revOk s mn mm = false) (hI : commitOk s n = true) :
    Calls Try.prog 9 #[.agg #[.int .u32 s, .int .i64 t], .slice la ln lcap, .slice ma mn mcap, .int .i64 n, .int .u32 v] w fun e w' => e = .returned (.bool true) ∧ Below w.heap.size w w' := by
  have WA := fun W => writeHead_any s t W hs ht
  have WB := fun W (h : TagRow W la ln tb te) => writeDesc_any s la ln lcap tb te hs htb (by omega) W h
  have WC := fun W (h : NumRow W ma mn mm) => writeRevoke_any s ma mn mcap mm hs hmm (by omega) W h
  have WD := fun W => writeCommit_any s n v W hs hn hv
  rw [hE] at WA
  rw [hF] at WB
  rw [hG] at WC
  rw [hI] at WD
  obtain ⟨fA, gA⟩ := factA s t _ hE
  obtain ⟨fB, gB⟩ := factB s ln tb te htb _ hF
  obtain ⟨fC, gC⟩ := factC s mn mm hmm _ hG
  obtain ⟨fD, gD⟩ := factD s n v hv _ hI
  clear hE hF hG hI
  generalize headZ s t = za at WA fA gA
  generalize descZ s ln tb te = zb at WB fB gB
  generalize revZ s mn mm = zc at WC fC gC
  generalize commitZ s n v = zd at WD fD gD
  have HWA := Lib.hid WA
  have HWB := Lib.hid WB
  have HWC := Lib.hid WC
  have HWD := Lib.hid WD
  have GA := Lib.hid (gA rfl)
  clear gA
  have GB := Lib.hid (gB rfl)
  clear gB
  clear gC
  have GD := Lib.hid (gD rfl)
  clear gD
  have FA := Lib.hid fA
  have FB := Lib.hid fB
  have FC := Lib.hid fC
  have FD := Lib.hid fD
  have TL := Lib.hid hTl
  have TM := Lib.hid hTm
  clear WA WB WC WD fA fB fC fD hTl hTm htb hmm
  have qs : (s != s) = false := by simp
  have qn : (n != n) = false := by simp
  have qv : (v != v) = false := by simp
  have hA0 : Hid (At (w.alloc (.cells #[.int .u32 s, .int .i64 t] 24)) w.heap.size 24 #[.int .u32 s, .int .i64 t]) := At.new _ _ _
  have hb0 : Hid (Below w.heap.size w (w.alloc (.cells #[.int .u32 s, .int .i64 t] 24))) := (Below.refl _ _).alloc (Nat.le_refl _) _
  go_enter Try.func9, Try.ntmps9
  go_wp2_with fail
  refine (awake9 _).mono ?_
  rintro e w1 ⟨rfl, hb1⟩
  have hA1 := hA0.out.below hb1 hA0.out.lt
  have hL1 : Below w.heap.size w w1 := hb0.out.trans (hb1.mono hb0.out.size)
  have TL1 := Lib.hid (TL.out.below hL1)
  have TM1 := Lib.hid (TM.out.below hL1)
  clear hA0 hb0 hb1 TL TM
  have hal := zero_block
  have hz0 := zero_head
  go_wp2_with (first | (refine wp_loadAtG rfl 24 (.tmp 5) rfl w.heap.size #[.int .u32 s, .int .i64 t] _ rfl hA1 Try.underlying24 rfl (by kernel_rfl) ?_))
  refine (HWA.out _).mono ?_
  rintro e w2 ⟨rfl, hb2⟩
  rw [show errOf true 2 = 0 from rfl]
  have hA2 := hA1.below hb2 hA1.lt
  have hL2 : Below w.heap.size w w2 := hL1.trans (hb2.mono hL1.size)
  have TL2 := Lib.hid (TL1.out.below hb2)
  have TM2 := Lib.hid (TM1.out.below hb2)
  clear hA1 hL1 TL1 TM1 hb2 
  have hn2 := Blk.new w2 28 256 (fun _ => 0)
  go_wp2_with (first | (refine wp_storeBlk rfl (.tmp 11) (.tmp 44) rfl w2.heap.size za _ rfl rfl hn2 ?_))
  intro w3 hXa3 ho3
  have hc3 : Below w2.heap.size w2 w3 := ((Below.refl _ _).alloc (Nat.le_refl _) _).trans (ho3.below (Nat.le_refl _))
  clear hn2 ho3
  have hA3 := hA2.below hc3 hA2.lt
  have hL3 : Below w.heap.size w w3 := hL2.trans (hc3.mono hL2.size)
  have TL3 := Lib.hid (TL2.out.below hc3)
  have TM3 := Lib.hid (TM2.out.below hc3)
  clear hA2 hL2 TL2 TM2 hc3 
  have c0 := hA3.cell (i := 0) rfl
  go_wp2_with fail
  refine (HWB.out _ TL3.out).mono ?_
  rintro e w4 ⟨rfl, hb4⟩
  rw [show errOf true 2 = 0 from rfl]
  clear c0
  have hA4 := hA3.below hb4 hA3.lt
  have hL4 : Below w.heap.size w w4 := hL3.trans (hb4.mono hL3.size)
  have TL4 := Lib.hid (TL3.out.below hb4)
  have TM4 := Lib.hid (TM3.out.below hb4)
  have hXa4 := hXa3.below hb4 hXa3.lt
  clear hA3 hL3 TL3 TM3 hb4 hXa3
  have hn4 := Blk.new w4 28 256 (fun _ => 0)
  go_wp2_with (first | (refine wp_storeBlk rfl (.tmp 13) (.tmp 51) rfl w4.heap.size zb _ rfl rfl hn4 ?_))
  intro w5 hXb5 ho5
  have hc5 : Below w4.heap.size w4 w5 := ((Below.refl _ _).alloc (Nat.le_refl _) _).trans (ho5.below (Nat.le_refl _))
  clear hn4 ho5
  have hA5 := hA4.below hc5 hA4.lt
  have hL5 : Below w.heap.size w w5 := hL4.trans (hc5.mono hL4.size)
  have TL5 := Lib.hid (TL4.out.below hc5)
  have TM5 := Lib.hid (TM4.out.below hc5)
  have hXa5 := hXa4.below hc5 hXa4.lt
  clear hA4 hL4 TL4 TM4 hc5 hXa4
  have c0 := hA5.cell (i := 0) rfl
  go_wp2_with fail
  refine (HWC.out _ TM5.out).mono ?_
  rintro e w6 ⟨rfl, hb6⟩
  rw [show errOf false 2 = 2 from rfl]
  clear c0
  have hA6 := hA5.below hb6 hA5.lt
  have hL6 : Below w.heap.size w w6 := hL5.trans (hb6.mono hL5.size)
  have TL6 := Lib.hid (TL5.out.below hb6)
  have TM6 := Lib.hid (TM5.out.below hb6)
  have hXa6 := hXa5.below hb6 hXa5.lt
  have hXb6 := hXb5.below hb6 hXb5.lt
  clear hA5 hL5 TL5 TM5 hb6 hXa5 hXb5
  have hn6 := Blk.new w6 28 256 (fun _ => 0)
  go_wp2_with (first | (refine wp_storeBlk rfl (.tmp 15) (.tmp 58) rfl w6.heap.size zc _ rfl rfl hn6 ?_))
  intro w7 hXc7 ho7
  have hc7 : Below w6.heap.size w6 w7 := ((Below.refl _ _).alloc (Nat.le_refl _) _).trans (ho7.below (Nat.le_refl _))
  clear hn6 ho7
  have hA7 := hA6.below hc7 hA6.lt
  have hL7 : Below w.heap.size w w7 := hL6.trans (hc7.mono hL6.size)
  have TL7 := Lib.hid (TL6.out.below hc7)
  have TM7 := Lib.hid (TM6.out.below hc7)
  have hXa7 := hXa6.below hc7 hXa6.lt
  have hXb7 := hXb6.below hc7 hXb6.lt
  clear hA6 hL6 TL6 TM6 hc7 hXa6 hXb6
  have c0 := hA7.cell (i := 0) rfl
  go_wp2_with fail
  refine (HWD.out _).mono ?_
  rintro e w8 ⟨rfl, hb8⟩
  rw [show errOf true 2 = 0 from rfl]
  clear c0
  have hA8 := hA7.below hb8 hA7.lt
  have hL8 : Below w.heap.size w w8 := hL7.trans (hb8.mono hL7.size)
  have TL8 := Lib.hid (TL7.out.below hb8)
  have TM8 := Lib.hid (TM7.out.below hb8)
  have hXa8 := hXa7.below hb8 hXa7.lt
  have hXb8 := hXb7.below hb8 hXb7.lt
  have hXc8 := hXc7.below hb8 hXc7.lt
  clear hA7 hL7 TL7 TM7 hb8 hXa7 hXb7 hXc7
  have hn8 := Blk.new w8 28 256 (fun _ => 0)
  go_wp2_with (first | (refine wp_storeBlk rfl (.tmp 17) (.tmp 66) rfl w8.heap.size zd _ rfl rfl hn8 ?_))
  intro w9 hXd9 ho9
  have hc9 : Below w8.heap.size w8 w9 := ((Below.refl _ _).alloc (Nat.le_refl _) _).trans (ho9.below (Nat.le_refl _))
  clear hn8 ho9
  have hA9 := hA8.below hc9 hA8.lt
  have hL9 : Below w.heap.size w w9 := hL8.trans (hc9.mono hL8.size)
  have TL9 := Lib.hid (TL8.out.below hc9)
  have TM9 := Lib.hid (TM8.out.below hc9)
  have hXa9 := hXa8.below hc9 hXa8.lt
  have hXb9 := hXb8.below hc9 hXb8.lt
  have hXc9 := hXc8.below hc9 hXc8.lt
  clear hA8 hL8 TL8 TM8 hc9 hXa8 hXb8 hXc8
  clear HWA HWB HWC HWD hal
  go_wp2_with (first | (refine wp_loadBlk rfl (.tmp 11) rfl w2.heap.size za rfl hXa9 ?_))
  refine (readHead_any za FA.out.byt _).mono ?_
  rintro e w10 ⟨rfl, hb10⟩
  rw [show headRd za = true from FA.out.a.2.2.2, show errOf true 90 = 0 from rfl]
  rw [GA.out.1, GA.out.2]
  have hA10 := hA9.below hb10 hA9.lt
  have hL10 : Below w.heap.size w w10 := hL9.trans (hb10.mono hL9.size)
  have TL10 := Lib.hid (TL9.out.below hb10)
  have TM10 := Lib.hid (TM9.out.below hb10)
  have hXa10 := hXa9.below hb10 hXa9.lt
  have hXb10 := hXb9.below hb10 hXb9.lt
  have hXc10 := hXc9.below hb10 hXc9.lt
  have hXd10 := hXd9.below hb10 hXd9.lt
  clear hA9 hL9 TL9 TM9 hb10 hXa9 hXb9 hXc9 hXd9
  have hcx : Below w10.heap.size w10 (w10.alloc (.cells #[.int .u32 s, .int .i64 t] 24)) := (Below.refl _ _).alloc (Nat.le_refl _) _
  have hH : At (w10.alloc (.cells #[.int .u32 s, .int .i64 t] 24)) w10.heap.size 24 #[.int .u32 s, .int .i64 t] := At.new _ _ _
  have hAx := hA10.below hcx hA10.lt
  have hLx : Below w.heap.size w (w10.alloc (.cells #[.int .u32 s, .int .i64 t] 24)) := hL10.trans (hcx.mono hL10.size)
  have TLx := Lib.hid (TL10.out.below hcx)
  have TMx := Lib.hid (TM10.out.below hcx)
  have hXax := hXa10.below hcx hXa10.lt
  have hXbx := hXb10.below hcx hXb10.lt
  have hXcx := hXc10.below hcx hXc10.lt
  have hXdx := hXd10.below hcx hXd10.lt
  clear hA10 hL10 TL10 TM10 hcx hXa10 hXb10 hXc10 hXd10
  have HLx := Lib.hid hLx
  clear hLx
  go_wp2_with (first | (refine wp_loadBlk rfl (.tmp 13) rfl w4.heap.size zb rfl hXbx ?_))
  refine (readDesc_any zb FB.out.byt _).mono ?_
  rintro e w11 ⟨hb11, ⟨hr, rfl⟩ | ⟨hr, gd, capd, rfl, hownD⟩⟩
  · rw [show descRd zb = true from FB.out.a.1] at hr; cases hr
  have hLx := HLx.out
  clear HLx
  have hH11 := hH.below hb11 hH.lt
  clear hH hr hz0
  have hA11 := hAx.below hb11 hAx.lt
  have hL11 : Below w.heap.size w w11 := hLx.trans (hb11.mono hLx.size)
  have TL11 := Lib.hid (TLx.out.below hb11)
  have TM11 := Lib.hid (TMx.out.below hb11)
  have hXa11 := hXax.below hb11 hXax.lt
  have hXb11 := hXbx.below hb11 hXbx.lt
  have hXc11 := hXcx.below hb11 hXcx.lt
  have hXd11 := hXdx.below hb11 hXdx.lt
  clear hAx hLx TLx TMx hb11 hXax hXbx hXcx hXdx
  obtain ⟨B1, B2, B3⟩ := GB.out
  rw [B1, B2]
  rw [B2] at hownD
  have TD : TagRow w11 (some ⟨gd, 0, none⟩) ln (descT zb) (descE zb) := by
    obtain ⟨a, cp, he, ht, _⟩ := own_tags hownD
    injection he with h1; rw [h1]; exact ht
  have B3' := Lib.hid B3
  have HTD11 := Lib.hid TD
  clear TD hownD B1 B2 B3
  go_wp2_with (first | (refine wp_loadBlk rfl (.tmp 15) rfl w6.heap.size zc rfl hXc11 ?_))
  refine (readRevoke_any zc FC.out.byt _).mono ?_
  rintro e w12 ⟨hb12, ⟨hr, rfl⟩ | ⟨hr, gr, capr, rfl, hownR⟩⟩
  rotate_left
  · rw [show revRd zc = false from FC.out.a.2.2.1] at hr; cases hr
  have hH12 := hH11.below hb12 hH11.lt
  clear hH11 hr
  have HTD12 := Lib.hid (HTD11.out.below hb12)
  clear HTD11
  have hA12 := hA11.below hb12 hA11.lt
  have hL12 : Below w.heap.size w w12 := hL11.trans (hb12.mono hL11.size)
  have TL12 := Lib.hid (TL11.out.below hb12)
  have TM12 := Lib.hid (TM11.out.below hb12)
  have hXa12 := hXa11.below hb12 hXa11.lt
  have hXb12 := hXb11.below hb12 hXb11.lt
  have hXc12 := hXc11.below hb12 hXc11.lt
  have hXd12 := hXd11.below hb12 hXd11.lt
  clear hA11 hL11 TL11 TM11 hb12 hXa11 hXb11 hXc11 hXd11
  go_wp2_with (first | (refine wp_loadBlk rfl (.tmp 17) rfl w8.heap.size zd rfl hXd12 ?_))
  refine (readCommit_any zd FD.out.byt _).mono ?_
  rintro e w13 ⟨rfl, hb13⟩
  rw [GD.out]
  have hH13 := hH12.below hb13 hH12.lt
  clear hH12
  have HTD13 := Lib.hid (HTD12.out.below hb13)
  clear HTD12
  have hA13 := hA12.below hb13 hA12.lt
  have hL13 : Below w.heap.size w w13 := hL12.trans (hb13.mono hL12.size)
  have TL13 := Lib.hid (TL12.out.below hb13)
  have TM13 := Lib.hid (TM12.out.below hb13)
  have hXa13 := hXa12.below hb13 hXa12.lt
  have hXb13 := hXb12.below hb13 hXb12.lt
  have hXc13 := hXc12.below hb13 hXc12.lt
  have hXd13 := hXd12.below hb13 hXd12.lt
  clear hA12 hL12 TL12 TM12 hb13 hXa12 hXb12 hXc12 hXd12
  have qh : ∀ W, (binOp .neq 24 (.agg #[.int .u32 s, .int .i64 t]) (.agg #[.int .u32 s, .int .i64 t])).run Try.prog W = .ok (.bool false) W := fun W => (neq_of_eql (run_eql_head s t s t W)).trans (by simp)
  have c0 := hA13.cell (i := 0) rfl
  go_wp2_with (first | (refine wp_loadAtG rfl 24 (.tmp 19) rfl w10.heap.size #[.int .u32 s, .int .i64 t] _ rfl hH13 Try.underlying24 rfl (by kernel_rfl) ?_) | (refine wp_loadAtG rfl 24 (.tmp 5) rfl w.heap.size #[.int .u32 s, .int .i64 t] _ rfl hA13 Try.underlying24 rfl (by kernel_rfl) ?_))
  refine (sameTags_true (some ⟨gd, 0, none⟩) la ln capd lcap _ _ _ _ _ (by omega) HTD13.out TL13.out B3'.out).mono ?_
  rintro e w14 ⟨rfl, nn14, rfl⟩
  have hb14 : Below w13.heap.size w13 (w13.drewN nn14) := bel_drewN (Below.refl _ _) _
  generalize w13.drewN nn14 = w14 at hb14 ⊢
  have hH14 := hH13.below hb14 hH13.lt
  clear hH13 c0
  have hA14 := hA13.below hb14 hA13.lt
  have hL14 : Below w.heap.size w w14 := hL13.trans (hb14.mono hL13.size)
  have TL14 := Lib.hid (TL13.out.below hb14)
  have TM14 := Lib.hid (TM13.out.below hb14)
  have hXa14 := hXa13.below hb14 hXa13.lt
  have hXb14 := hXb13.below hb14 hXb13.lt
  have hXc14 := hXc13.below hb14 hXc13.lt
  have hXd14 := hXd13.below hb14 hXd13.lt
  clear hA13 hL13 TL13 TM13 hb14 hXa13 hXb13 hXc13 hXd13
  have c0 := hA14.cell (i := 0) rfl
  go_wp2_with (first | (refine wp_loadBlkG rfl (.tmp 11) rfl w2.heap.size za rfl hXa14 ?_))
  refine (one_any za FA.out.byt true 4 (by decide) FA.out.rd FA.out.kind _).mono ?_
  rintro e w15 ⟨rfl, hb15⟩
  clear c0
  have hA15 := hA14.below hb15 hA14.lt
  have hL15 : Below w.heap.size w w15 := hL14.trans (hb15.mono hL14.size)
  have TL15 := Lib.hid (TL14.out.below hb15)
  have TM15 := Lib.hid (TM14.out.below hb15)
  have hXa15 := hXa14.below hb15 hXa14.lt
  have hXb15 := hXb14.below hb15 hXb14.lt
  have hXc15 := hXc14.below hb15 hXc14.lt
  have hXd15 := hXd14.below hb15 hXd14.lt
  clear hA14 hL14 TL14 TM14 hb15 hXa14 hXb14 hXc14 hXd14
  go_wp2_with (first | (refine wp_loadBlkG rfl (.tmp 13) rfl w4.heap.size zb rfl hXb15 ?_))
  refine (one_any zb FB.out.byt true 1 (by decide) FB.out.rd FB.out.kind _).mono ?_
  rintro e w16 ⟨rfl, hb16⟩
  have hA16 := hA15.below hb16 hA15.lt
  have hL16 : Below w.heap.size w w16 := hL15.trans (hb16.mono hL15.size)
  have TL16 := Lib.hid (TL15.out.below hb16)
  have TM16 := Lib.hid (TM15.out.below hb16)
  have hXa16 := hXa15.below hb16 hXa15.lt
  have hXb16 := hXb15.below hb16 hXb15.lt
  have hXc16 := hXc15.below hb16 hXc15.lt
  have hXd16 := hXd15.below hb16 hXd15.lt
  clear hA15 hL15 TL15 TM15 hb16 hXa15 hXb15 hXc15 hXd15
  go_wp2_with (first | (refine wp_loadBlkG rfl (.tmp 15) rfl w6.heap.size zc rfl hXc16 ?_))
  refine (one_any zc FC.out.byt false 3 (by decide) FC.out.rd FC.out.kind _).mono ?_
  rintro e w17 ⟨rfl, hb17⟩
  have hA17 := hA16.below hb17 hA16.lt
  have hL17 : Below w.heap.size w w17 := hL16.trans (hb17.mono hL16.size)
  have TL17 := Lib.hid (TL16.out.below hb17)
  have TM17 := Lib.hid (TM16.out.below hb17)
  have hXa17 := hXa16.below hb17 hXa16.lt
  have hXb17 := hXb16.below hb17 hXb16.lt
  have hXc17 := hXc16.below hb17 hXc16.lt
  have hXd17 := hXd16.below hb17 hXd16.lt
  clear hA16 hL16 TL16 TM16 hb17 hXa16 hXb16 hXc16 hXd16
  go_wp2_with (first | (refine wp_loadBlkG rfl (.tmp 17) rfl w8.heap.size zd rfl hXd17 ?_))
  refine (one_any zd FD.out.byt true 2 (by decide) FD.out.rd FD.out.kind _).mono ?_
  rintro e w18 ⟨rfl, hb18⟩
  have hA18 := hA17.below hb18 hA17.lt
  have hL18 : Below w.heap.size w w18 := hL17.trans (hb18.mono hL17.size)
  have TL18 := Lib.hid (TL17.out.below hb18)
  have TM18 := Lib.hid (TM17.out.below hb18)
  have hXa18 := hXa17.below hb18 hXa17.lt
  have hXb18 := hXb17.below hb18 hXb17.lt
  have hXc18 := hXc17.below hb18 hXc17.lt
  have hXd18 := hXd17.below hb18 hXd17.lt
  clear hA17 hL17 TL17 TM17 hb18 hXa17 hXb17 hXc17 hXd17
  go_wp2_with fail
  go_ret
  exact ⟨rfl, hL18⟩

set_option maxRecDepth 100000 in
set_option maxHeartbeats 8000000 in
theorem back9_1110 (s t n v : Int) (la ma : Option Addr) (ln lcap mn mcap : Nat) (tb mm : Nat → Int) (te : Nat → Bool) (hs : 0 ≤ s ∧ s < 4294967296) (ht : -9223372036854775808 ≤ t ∧ t ≤ 9223372036854775807) (hn : -9223372036854775808 ≤ n ∧ n ≤ 9223372036854775807) (hv : 0 ≤ v ∧ v < 4294967296)
    (htb : Wds tb) (hmm : Wds mm) (hl1 : ln ≤ 1000) (hm1 : mn ≤ 1000) (w : World) (hTl : TagRow w la ln tb te) (hTm : NumRow w ma mn mm) (hE : headOk s t = true) (hF : descOk s ln tb = true) (hG : revOk s mn mm = true) (hI : commitOk s n = false) :
    Calls Try.prog 9 #[.agg #[.int .u32 s, .int .i64 t], .slice la ln lcap, .slice ma mn mcap, .int .i64 n, .int .u32 v] w fun e w' => e = .returned (.bool true) ∧ Below w.heap.size w w' := by
  have WA := fun W => writeHead_any s t W hs ht
  have WB := fun W (h : TagRow W la ln tb te) => writeDesc_any s la ln lcap tb te hs htb (by omega) W h
  have WC := fun W (h : NumRow W ma mn mm) => writeRevoke_any s ma mn mcap mm hs hmm (by omega) W h
  have WD := fun W => writeCommit_any s n v W hs hn hv
  rw [hE] at WA
  rw [hF] at WB
  rw [hG] at WC
  rw [hI] at WD
  obtain ⟨fA, gA⟩ := factA s t _ hE
  obtain ⟨fB, gB⟩ := factB s ln tb te htb _ hF
  obtain ⟨fC, gC⟩ := factC s mn mm hmm _ hG
  obtain ⟨fD, gD⟩ := factD s n v hv _ hI
  clear hE hF hG hI
  generalize headZ s t = za at WA fA gA
  generalize descZ s ln tb te = zb at WB fB gB
  generalize revZ s mn mm = zc at WC fC gC
  generalize commitZ s n v = zd at WD fD gD
  have HWA := Lib.hid WA
  have HWB := Lib.hid WB
  have HWC := Lib.hid WC
  have HWD := Lib.hid WD
  have GA := Lib.hid (gA rfl)
  clear gA
  have GB := Lib.hid (gB rfl)
  clear gB
  have GC := Lib.hid (gC rfl)
  clear gC
  clear gD
  have FA := Lib.hid fA
  have FB := Lib.hid fB
  have FC := Lib.hid fC
  have FD := Lib.hid fD
  have TL := Lib.hid hTl
  have TM := Lib.hid hTm
  clear WA WB WC WD fA fB fC fD hTl hTm htb hmm
  have qs : (s != s) = false := by simp
  have qn : (n != n) = false := by simp
  have qv : (v != v) = false := by simp
  have hA0 : Hid (At (w.alloc (.cells #[.int .u32 s, .int .i64 t] 24)) w.heap.size 24 #[.int .u32 s, .int .i64 t]) := At.new _ _ _
  have hb0 : Hid (Below w.heap.size w (w.alloc (.cells #[.int .u32 s, .int .i64 t] 24))) := (Below.refl _ _).alloc (Nat.le_refl _) _
  go_enter Try.func9, Try.ntmps9
  go_wp2_with fail
  refine (awake9 _).mono ?_
  rintro e w1 ⟨rfl, hb1⟩
  have hA1 := hA0.out.below hb1 hA0.out.lt
  have hL1 : Below w.heap.size w w1 := hb0.out.trans (hb1.mono hb0.out.size)
  have TL1 := Lib.hid (TL.out.below hL1)
  have TM1 := Lib.hid (TM.out.below hL1)
  clear hA0 hb0 hb1 TL TM
  have hal := zero_block
  have hz0 := zero_head
  go_wp2_with (first | (refine wp_loadAtG rfl 24 (.tmp 5) rfl w.heap.size #[.int .u32 s, .int .i64 t] _ rfl hA1 Try.underlying24 rfl (by kernel_rfl) ?_))
  refine (HWA.out _).mono ?_
  rintro e w2 ⟨rfl, hb2⟩
  rw [show errOf true 2 = 0 from rfl]
  have hA2 := hA1.below hb2 hA1.lt
  have hL2 : Below w.heap.size w w2 := hL1.trans (hb2.mono hL1.size)
  have TL2 := Lib.hid (TL1.out.below hb2)
  have TM2 := Lib.hid (TM1.out.below hb2)
  clear hA1 hL1 TL1 TM1 hb2 
  have hn2 := Blk.new w2 28 256 (fun _ => 0)
  go_wp2_with (first | (refine wp_storeBlk rfl (.tmp 11) (.tmp 44) rfl w2.heap.size za _ rfl rfl hn2 ?_))
  intro w3 hXa3 ho3
  have hc3 : Below w2.heap.size w2 w3 := ((Below.refl _ _).alloc (Nat.le_refl _) _).trans (ho3.below (Nat.le_refl _))
  clear hn2 ho3
  have hA3 := hA2.below hc3 hA2.lt
  have hL3 : Below w.heap.size w w3 := hL2.trans (hc3.mono hL2.size)
  have TL3 := Lib.hid (TL2.out.below hc3)
  have TM3 := Lib.hid (TM2.out.below hc3)
  clear hA2 hL2 TL2 TM2 hc3 
  have c0 := hA3.cell (i := 0) rfl
  go_wp2_with fail
  refine (HWB.out _ TL3.out).mono ?_
  rintro e w4 ⟨rfl, hb4⟩
  rw [show errOf true 2 = 0 from rfl]
  clear c0
  have hA4 := hA3.below hb4 hA3.lt
  have hL4 : Below w.heap.size w w4 := hL3.trans (hb4.mono hL3.size)
  have TL4 := Lib.hid (TL3.out.below hb4)
  have TM4 := Lib.hid (TM3.out.below hb4)
  have hXa4 := hXa3.below hb4 hXa3.lt
  clear hA3 hL3 TL3 TM3 hb4 hXa3
  have hn4 := Blk.new w4 28 256 (fun _ => 0)
  go_wp2_with (first | (refine wp_storeBlk rfl (.tmp 13) (.tmp 51) rfl w4.heap.size zb _ rfl rfl hn4 ?_))
  intro w5 hXb5 ho5
  have hc5 : Below w4.heap.size w4 w5 := ((Below.refl _ _).alloc (Nat.le_refl _) _).trans (ho5.below (Nat.le_refl _))
  clear hn4 ho5
  have hA5 := hA4.below hc5 hA4.lt
  have hL5 : Below w.heap.size w w5 := hL4.trans (hc5.mono hL4.size)
  have TL5 := Lib.hid (TL4.out.below hc5)
  have TM5 := Lib.hid (TM4.out.below hc5)
  have hXa5 := hXa4.below hc5 hXa4.lt
  clear hA4 hL4 TL4 TM4 hc5 hXa4
  have c0 := hA5.cell (i := 0) rfl
  go_wp2_with fail
  refine (HWC.out _ TM5.out).mono ?_
  rintro e w6 ⟨rfl, hb6⟩
  rw [show errOf true 2 = 0 from rfl]
  clear c0
  have hA6 := hA5.below hb6 hA5.lt
  have hL6 : Below w.heap.size w w6 := hL5.trans (hb6.mono hL5.size)
  have TL6 := Lib.hid (TL5.out.below hb6)
  have TM6 := Lib.hid (TM5.out.below hb6)
  have hXa6 := hXa5.below hb6 hXa5.lt
  have hXb6 := hXb5.below hb6 hXb5.lt
  clear hA5 hL5 TL5 TM5 hb6 hXa5 hXb5
  have hn6 := Blk.new w6 28 256 (fun _ => 0)
  go_wp2_with (first | (refine wp_storeBlk rfl (.tmp 15) (.tmp 58) rfl w6.heap.size zc _ rfl rfl hn6 ?_))
  intro w7 hXc7 ho7
  have hc7 : Below w6.heap.size w6 w7 := ((Below.refl _ _).alloc (Nat.le_refl _) _).trans (ho7.below (Nat.le_refl _))
  clear hn6 ho7
  have hA7 := hA6.below hc7 hA6.lt
  have hL7 : Below w.heap.size w w7 := hL6.trans (hc7.mono hL6.size)
  have TL7 := Lib.hid (TL6.out.below hc7)
  have TM7 := Lib.hid (TM6.out.below hc7)
  have hXa7 := hXa6.below hc7 hXa6.lt
  have hXb7 := hXb6.below hc7 hXb6.lt
  clear hA6 hL6 TL6 TM6 hc7 hXa6 hXb6
  have c0 := hA7.cell (i := 0) rfl
  go_wp2_with fail
  refine (HWD.out _).mono ?_
  rintro e w8 ⟨rfl, hb8⟩
  rw [show errOf false 2 = 2 from rfl]
  clear c0
  have hA8 := hA7.below hb8 hA7.lt
  have hL8 : Below w.heap.size w w8 := hL7.trans (hb8.mono hL7.size)
  have TL8 := Lib.hid (TL7.out.below hb8)
  have TM8 := Lib.hid (TM7.out.below hb8)
  have hXa8 := hXa7.below hb8 hXa7.lt
  have hXb8 := hXb7.below hb8 hXb7.lt
  have hXc8 := hXc7.below hb8 hXc7.lt
  clear hA7 hL7 TL7 TM7 hb8 hXa7 hXb7 hXc7
  have hn8 := Blk.new w8 28 256 (fun _ => 0)
  go_wp2_with (first | (refine wp_storeBlk rfl (.tmp 17) (.tmp 66) rfl w8.heap.size zd _ rfl rfl hn8 ?_))
  intro w9 hXd9 ho9
  have hc9 : Below w8.heap.size w8 w9 := ((Below.refl _ _).alloc (Nat.le_refl _) _).trans (ho9.below (Nat.le_refl _))
  clear hn8 ho9
  have hA9 := hA8.below hc9 hA8.lt
  have hL9 : Below w.heap.size w w9 := hL8.trans (hc9.mono hL8.size)
  have TL9 := Lib.hid (TL8.out.below hc9)
  have TM9 := Lib.hid (TM8.out.below hc9)
  have hXa9 := hXa8.below hc9 hXa8.lt
  have hXb9 := hXb8.below hc9 hXb8.lt
  have hXc9 := hXc8.below hc9 hXc8.lt
  clear hA8 hL8 TL8 TM8 hc9 hXa8 hXb8 hXc8
  clear HWA HWB HWC HWD hal
  go_wp2_with (first | (refine wp_loadBlk rfl (.tmp 11) rfl w2.heap.size za rfl hXa9 ?_))
  refine (readHead_any za FA.out.byt _).mono ?_
  rintro e w10 ⟨rfl, hb10⟩
  rw [show headRd za = true from FA.out.a.2.2.2, show errOf true 90 = 0 from rfl]
  rw [GA.out.1, GA.out.2]
  have hA10 := hA9.below hb10 hA9.lt
  have hL10 : Below w.heap.size w w10 := hL9.trans (hb10.mono hL9.size)
  have TL10 := Lib.hid (TL9.out.below hb10)
  have TM10 := Lib.hid (TM9.out.below hb10)
  have hXa10 := hXa9.below hb10 hXa9.lt
  have hXb10 := hXb9.below hb10 hXb9.lt
  have hXc10 := hXc9.below hb10 hXc9.lt
  have hXd10 := hXd9.below hb10 hXd9.lt
  clear hA9 hL9 TL9 TM9 hb10 hXa9 hXb9 hXc9 hXd9
  have hcx : Below w10.heap.size w10 (w10.alloc (.cells #[.int .u32 s, .int .i64 t] 24)) := (Below.refl _ _).alloc (Nat.le_refl _) _
  have hH : At (w10.alloc (.cells #[.int .u32 s, .int .i64 t] 24)) w10.heap.size 24 #[.int .u32 s, .int .i64 t] := At.new _ _ _
  have hAx := hA10.below hcx hA10.lt
  have hLx : Below w.heap.size w (w10.alloc (.cells #[.int .u32 s, .int .i64 t] 24)) := hL10.trans (hcx.mono hL10.size)
  have TLx := Lib.hid (TL10.out.below hcx)
  have TMx := Lib.hid (TM10.out.below hcx)
  have hXax := hXa10.below hcx hXa10.lt
  have hXbx := hXb10.below hcx hXb10.lt
  have hXcx := hXc10.below hcx hXc10.lt
  have hXdx := hXd10.below hcx hXd10.lt
  clear hA10 hL10 TL10 TM10 hcx hXa10 hXb10 hXc10 hXd10
  have HLx := Lib.hid hLx
  clear hLx
  go_wp2_with (first | (refine wp_loadBlk rfl (.tmp 13) rfl w4.heap.size zb rfl hXbx ?_))
  refine (readDesc_any zb FB.out.byt _).mono ?_
  rintro e w11 ⟨hb11, ⟨hr, rfl⟩ | ⟨hr, gd, capd, rfl, hownD⟩⟩
  · rw [show descRd zb = true from FB.out.a.1] at hr; cases hr
  have hLx := HLx.out
  clear HLx
  have hH11 := hH.below hb11 hH.lt
  clear hH hr hz0
  have hA11 := hAx.below hb11 hAx.lt
  have hL11 : Below w.heap.size w w11 := hLx.trans (hb11.mono hLx.size)
  have TL11 := Lib.hid (TLx.out.below hb11)
  have TM11 := Lib.hid (TMx.out.below hb11)
  have hXa11 := hXax.below hb11 hXax.lt
  have hXb11 := hXbx.below hb11 hXbx.lt
  have hXc11 := hXcx.below hb11 hXcx.lt
  have hXd11 := hXdx.below hb11 hXdx.lt
  clear hAx hLx TLx TMx hb11 hXax hXbx hXcx hXdx
  obtain ⟨B1, B2, B3⟩ := GB.out
  rw [B1, B2]
  rw [B2] at hownD
  have TD : TagRow w11 (some ⟨gd, 0, none⟩) ln (descT zb) (descE zb) := by
    obtain ⟨a, cp, he, ht, _⟩ := own_tags hownD
    injection he with h1; rw [h1]; exact ht
  have B3' := Lib.hid B3
  have HTD11 := Lib.hid TD
  clear TD hownD B1 B2 B3
  go_wp2_with (first | (refine wp_loadBlk rfl (.tmp 15) rfl w6.heap.size zc rfl hXc11 ?_))
  refine (readRevoke_any zc FC.out.byt _).mono ?_
  rintro e w12 ⟨hb12, ⟨hr, rfl⟩ | ⟨hr, gr, capr, rfl, hownR⟩⟩
  · rw [show revRd zc = true from FC.out.a.2.2.1] at hr; cases hr
  have hH12 := hH11.below hb12 hH11.lt
  clear hH11 hr
  have HTD12 := Lib.hid (HTD11.out.below hb12)
  clear HTD11
  have hA12 := hA11.below hb12 hA11.lt
  have hL12 : Below w.heap.size w w12 := hL11.trans (hb12.mono hL11.size)
  have TL12 := Lib.hid (TL11.out.below hb12)
  have TM12 := Lib.hid (TM11.out.below hb12)
  have hXa12 := hXa11.below hb12 hXa11.lt
  have hXb12 := hXb11.below hb12 hXb11.lt
  have hXc12 := hXc11.below hb12 hXc11.lt
  have hXd12 := hXd11.below hb12 hXd11.lt
  clear hA11 hL11 TL11 TM11 hb12 hXa11 hXb11 hXc11 hXd11
  obtain ⟨C1, C2, C3⟩ := GC.out
  rw [C1, C2]
  rw [C2] at hownR
  have C3' := Lib.hid C3
  have HTR12 := Lib.hid (own_nums hownR)
  clear hownR C1 C2 C3
  go_wp2_with (first | (refine wp_loadBlk rfl (.tmp 17) rfl w8.heap.size zd rfl hXd12 ?_))
  refine (readCommit_any zd FD.out.byt _).mono ?_
  rintro e w13 ⟨rfl, hb13⟩
  rw [commitV, show commitRd zd = false from FD.out.a.2.1, if_neg Bool.false_ne_true]
  have hH13 := hH12.below hb13 hH12.lt
  clear hH12
  have HTD13 := Lib.hid (HTD12.out.below hb13)
  clear HTD12
  have HTR13 := Lib.hid (HTR12.out.below hb13)
  clear HTR12
  have hA13 := hA12.below hb13 hA12.lt
  have hL13 : Below w.heap.size w w13 := hL12.trans (hb13.mono hL12.size)
  have TL13 := Lib.hid (TL12.out.below hb13)
  have TM13 := Lib.hid (TM12.out.below hb13)
  have hXa13 := hXa12.below hb13 hXa12.lt
  have hXb13 := hXb12.below hb13 hXb12.lt
  have hXc13 := hXc12.below hb13 hXc12.lt
  have hXd13 := hXd12.below hb13 hXd12.lt
  clear hA12 hL12 TL12 TM12 hb13 hXa12 hXb12 hXc12 hXd12
  have qh : ∀ W, (binOp .neq 24 (.agg #[.int .u32 s, .int .i64 t]) (.agg #[.int .u32 s, .int .i64 t])).run Try.prog W = .ok (.bool false) W := fun W => (neq_of_eql (run_eql_head s t s t W)).trans (by simp)
  have c0 := hA13.cell (i := 0) rfl
  go_wp2_with (first | (refine wp_loadAtG rfl 24 (.tmp 19) rfl w10.heap.size #[.int .u32 s, .int .i64 t] _ rfl hH13 Try.underlying24 rfl (by kernel_rfl) ?_) | (refine wp_loadAtG rfl 24 (.tmp 5) rfl w.heap.size #[.int .u32 s, .int .i64 t] _ rfl hA13 Try.underlying24 rfl (by kernel_rfl) ?_))
  refine (sameTags_true (some ⟨gd, 0, none⟩) la ln capd lcap _ _ _ _ _ (by omega) HTD13.out TL13.out B3'.out).mono ?_
  rintro e w14 ⟨rfl, nn14, rfl⟩
  have hb14 : Below w13.heap.size w13 (w13.drewN nn14) := bel_drewN (Below.refl _ _) _
  generalize w13.drewN nn14 = w14 at hb14 ⊢
  have hH14 := hH13.below hb14 hH13.lt
  clear hH13 c0
  have HTR14 := Lib.hid (HTR13.out.below hb14)
  clear HTR13
  have hA14 := hA13.below hb14 hA13.lt
  have hL14 : Below w.heap.size w w14 := hL13.trans (hb14.mono hL13.size)
  have TL14 := Lib.hid (TL13.out.below hb14)
  have TM14 := Lib.hid (TM13.out.below hb14)
  have hXa14 := hXa13.below hb14 hXa13.lt
  have hXb14 := hXb13.below hb14 hXb13.lt
  have hXc14 := hXc13.below hb14 hXc13.lt
  have hXd14 := hXd13.below hb14 hXd13.lt
  clear hA13 hL13 TL13 TM13 hb14 hXa13 hXb13 hXc13 hXd13
  have c0 := hA14.cell (i := 0) rfl
  go_wp2_with fail
  have heq : Hid (eqB (revM zc) mm mn = true) := (eqB_iff _ _ _).2 C3'.out
  refine (sameNum_any (some ⟨gr, 0, none⟩) ma mn capr mcap (revM zc) mm _ (by omega) HTR14.out TM14.out).mono ?_
  rw [heq.out]
  rintro e w15 ⟨rfl, nn15, rfl⟩
  have hb15 : Below w14.heap.size w14 (w14.drewN nn15) := bel_drewN (Below.refl _ _) _
  generalize w14.drewN nn15 = w15 at hb15 ⊢
  clear c0 hH14 HTR14
  have hA15 := hA14.below hb15 hA14.lt
  have hL15 : Below w.heap.size w w15 := hL14.trans (hb15.mono hL14.size)
  have TL15 := Lib.hid (TL14.out.below hb15)
  have TM15 := Lib.hid (TM14.out.below hb15)
  have hXa15 := hXa14.below hb15 hXa14.lt
  have hXb15 := hXb14.below hb15 hXb14.lt
  have hXc15 := hXc14.below hb15 hXc14.lt
  have hXd15 := hXd14.below hb15 hXd14.lt
  clear hA14 hL14 TL14 TM14 hb15 hXa14 hXb14 hXc14 hXd14
  have c0 := hA15.cell (i := 0) rfl
  go_wp2_with (first | (refine wp_loadBlkG rfl (.tmp 11) rfl w2.heap.size za rfl hXa15 ?_))
  refine (one_any za FA.out.byt true 4 (by decide) FA.out.rd FA.out.kind _).mono ?_
  rintro e w16 ⟨rfl, hb16⟩
  clear c0
  have hA16 := hA15.below hb16 hA15.lt
  have hL16 : Below w.heap.size w w16 := hL15.trans (hb16.mono hL15.size)
  have TL16 := Lib.hid (TL15.out.below hb16)
  have TM16 := Lib.hid (TM15.out.below hb16)
  have hXa16 := hXa15.below hb16 hXa15.lt
  have hXb16 := hXb15.below hb16 hXb15.lt
  have hXc16 := hXc15.below hb16 hXc15.lt
  have hXd16 := hXd15.below hb16 hXd15.lt
  clear hA15 hL15 TL15 TM15 hb16 hXa15 hXb15 hXc15 hXd15
  go_wp2_with (first | (refine wp_loadBlkG rfl (.tmp 13) rfl w4.heap.size zb rfl hXb16 ?_))
  refine (one_any zb FB.out.byt true 1 (by decide) FB.out.rd FB.out.kind _).mono ?_
  rintro e w17 ⟨rfl, hb17⟩
  have hA17 := hA16.below hb17 hA16.lt
  have hL17 : Below w.heap.size w w17 := hL16.trans (hb17.mono hL16.size)
  have TL17 := Lib.hid (TL16.out.below hb17)
  have TM17 := Lib.hid (TM16.out.below hb17)
  have hXa17 := hXa16.below hb17 hXa16.lt
  have hXb17 := hXb16.below hb17 hXb16.lt
  have hXc17 := hXc16.below hb17 hXc16.lt
  have hXd17 := hXd16.below hb17 hXd16.lt
  clear hA16 hL16 TL16 TM16 hb17 hXa16 hXb16 hXc16 hXd16
  go_wp2_with (first | (refine wp_loadBlkG rfl (.tmp 15) rfl w6.heap.size zc rfl hXc17 ?_))
  refine (one_any zc FC.out.byt true 3 (by decide) FC.out.rd FC.out.kind _).mono ?_
  rintro e w18 ⟨rfl, hb18⟩
  have hA18 := hA17.below hb18 hA17.lt
  have hL18 : Below w.heap.size w w18 := hL17.trans (hb18.mono hL17.size)
  have TL18 := Lib.hid (TL17.out.below hb18)
  have TM18 := Lib.hid (TM17.out.below hb18)
  have hXa18 := hXa17.below hb18 hXa17.lt
  have hXb18 := hXb17.below hb18 hXb17.lt
  have hXc18 := hXc17.below hb18 hXc17.lt
  have hXd18 := hXd17.below hb18 hXd17.lt
  clear hA17 hL17 TL17 TM17 hb18 hXa17 hXb17 hXc17 hXd17
  go_wp2_with (first | (refine wp_loadBlkG rfl (.tmp 17) rfl w8.heap.size zd rfl hXd18 ?_))
  refine (one_any zd FD.out.byt false 2 (by decide) FD.out.rd FD.out.kind _).mono ?_
  rintro e w19 ⟨rfl, hb19⟩
  have hA19 := hA18.below hb19 hA18.lt
  have hL19 : Below w.heap.size w w19 := hL18.trans (hb19.mono hL18.size)
  have TL19 := Lib.hid (TL18.out.below hb19)
  have TM19 := Lib.hid (TM18.out.below hb19)
  have hXa19 := hXa18.below hb19 hXa18.lt
  have hXb19 := hXb18.below hb19 hXb18.lt
  have hXc19 := hXc18.below hb19 hXc18.lt
  have hXd19 := hXd18.below hb19 hXd18.lt
  clear hA18 hL18 TL18 TM18 hb19 hXa18 hXb18 hXc18 hXd18
  go_wp2_with fail
  go_ret
  exact ⟨rfl, hL19⟩

set_option maxRecDepth 100000 in
set_option maxHeartbeats 8000000 in
theorem back9_1111 (s t n v : Int) (la ma : Option Addr) (ln lcap mn mcap : Nat) (tb mm : Nat → Int) (te : Nat → Bool) (hs : 0 ≤ s ∧ s < 4294967296) (ht : -9223372036854775808 ≤ t ∧ t ≤ 9223372036854775807) (hn : -9223372036854775808 ≤ n ∧ n ≤ 9223372036854775807) (hv : 0 ≤ v ∧ v < 4294967296)
    (htb : Wds tb) (hmm : Wds mm) (hl1 : ln ≤ 1000) (hm1 : mn ≤ 1000) (w : World) (hTl : TagRow w la ln tb te) (hTm : NumRow w ma mn mm) (hE : headOk s t = true) (hF : descOk s ln tb = true) (hG : revOk s mn mm = true) (hI : commitOk s n = true) :
    Calls Try.prog 9 #[.agg #[.int .u32 s, .int .i64 t], .slice la ln lcap, .slice ma mn mcap, .int .i64 n, .int .u32 v] w fun e w' => e = .returned (.bool true) ∧ Below w.heap.size w w' := by
  have WA := fun W => writeHead_any s t W hs ht
  have WB := fun W (h : TagRow W la ln tb te) => writeDesc_any s la ln lcap tb te hs htb (by omega) W h
  have WC := fun W (h : NumRow W ma mn mm) => writeRevoke_any s ma mn mcap mm hs hmm (by omega) W h
  have WD := fun W => writeCommit_any s n v W hs hn hv
  rw [hE] at WA
  rw [hF] at WB
  rw [hG] at WC
  rw [hI] at WD
  obtain ⟨fA, gA⟩ := factA s t _ hE
  obtain ⟨fB, gB⟩ := factB s ln tb te htb _ hF
  obtain ⟨fC, gC⟩ := factC s mn mm hmm _ hG
  obtain ⟨fD, gD⟩ := factD s n v hv _ hI
  clear hE hF hG hI
  generalize headZ s t = za at WA fA gA
  generalize descZ s ln tb te = zb at WB fB gB
  generalize revZ s mn mm = zc at WC fC gC
  generalize commitZ s n v = zd at WD fD gD
  have HWA := Lib.hid WA
  have HWB := Lib.hid WB
  have HWC := Lib.hid WC
  have HWD := Lib.hid WD
  have GA := Lib.hid (gA rfl)
  clear gA
  have GB := Lib.hid (gB rfl)
  clear gB
  have GC := Lib.hid (gC rfl)
  clear gC
  have GD := Lib.hid (gD rfl)
  clear gD
  have FA := Lib.hid fA
  have FB := Lib.hid fB
  have FC := Lib.hid fC
  have FD := Lib.hid fD
  have TL := Lib.hid hTl
  have TM := Lib.hid hTm
  clear WA WB WC WD fA fB fC fD hTl hTm htb hmm
  have qs : (s != s) = false := by simp
  have qn : (n != n) = false := by simp
  have qv : (v != v) = false := by simp
  have hA0 : Hid (At (w.alloc (.cells #[.int .u32 s, .int .i64 t] 24)) w.heap.size 24 #[.int .u32 s, .int .i64 t]) := At.new _ _ _
  have hb0 : Hid (Below w.heap.size w (w.alloc (.cells #[.int .u32 s, .int .i64 t] 24))) := (Below.refl _ _).alloc (Nat.le_refl _) _
  go_enter Try.func9, Try.ntmps9
  go_wp2_with fail
  refine (awake9 _).mono ?_
  rintro e w1 ⟨rfl, hb1⟩
  have hA1 := hA0.out.below hb1 hA0.out.lt
  have hL1 : Below w.heap.size w w1 := hb0.out.trans (hb1.mono hb0.out.size)
  have TL1 := Lib.hid (TL.out.below hL1)
  have TM1 := Lib.hid (TM.out.below hL1)
  clear hA0 hb0 hb1 TL TM
  have hal := zero_block
  have hz0 := zero_head
  go_wp2_with (first | (refine wp_loadAtG rfl 24 (.tmp 5) rfl w.heap.size #[.int .u32 s, .int .i64 t] _ rfl hA1 Try.underlying24 rfl (by kernel_rfl) ?_))
  refine (HWA.out _).mono ?_
  rintro e w2 ⟨rfl, hb2⟩
  rw [show errOf true 2 = 0 from rfl]
  have hA2 := hA1.below hb2 hA1.lt
  have hL2 : Below w.heap.size w w2 := hL1.trans (hb2.mono hL1.size)
  have TL2 := Lib.hid (TL1.out.below hb2)
  have TM2 := Lib.hid (TM1.out.below hb2)
  clear hA1 hL1 TL1 TM1 hb2 
  have hn2 := Blk.new w2 28 256 (fun _ => 0)
  go_wp2_with (first | (refine wp_storeBlk rfl (.tmp 11) (.tmp 44) rfl w2.heap.size za _ rfl rfl hn2 ?_))
  intro w3 hXa3 ho3
  have hc3 : Below w2.heap.size w2 w3 := ((Below.refl _ _).alloc (Nat.le_refl _) _).trans (ho3.below (Nat.le_refl _))
  clear hn2 ho3
  have hA3 := hA2.below hc3 hA2.lt
  have hL3 : Below w.heap.size w w3 := hL2.trans (hc3.mono hL2.size)
  have TL3 := Lib.hid (TL2.out.below hc3)
  have TM3 := Lib.hid (TM2.out.below hc3)
  clear hA2 hL2 TL2 TM2 hc3 
  have c0 := hA3.cell (i := 0) rfl
  go_wp2_with fail
  refine (HWB.out _ TL3.out).mono ?_
  rintro e w4 ⟨rfl, hb4⟩
  rw [show errOf true 2 = 0 from rfl]
  clear c0
  have hA4 := hA3.below hb4 hA3.lt
  have hL4 : Below w.heap.size w w4 := hL3.trans (hb4.mono hL3.size)
  have TL4 := Lib.hid (TL3.out.below hb4)
  have TM4 := Lib.hid (TM3.out.below hb4)
  have hXa4 := hXa3.below hb4 hXa3.lt
  clear hA3 hL3 TL3 TM3 hb4 hXa3
  have hn4 := Blk.new w4 28 256 (fun _ => 0)
  go_wp2_with (first | (refine wp_storeBlk rfl (.tmp 13) (.tmp 51) rfl w4.heap.size zb _ rfl rfl hn4 ?_))
  intro w5 hXb5 ho5
  have hc5 : Below w4.heap.size w4 w5 := ((Below.refl _ _).alloc (Nat.le_refl _) _).trans (ho5.below (Nat.le_refl _))
  clear hn4 ho5
  have hA5 := hA4.below hc5 hA4.lt
  have hL5 : Below w.heap.size w w5 := hL4.trans (hc5.mono hL4.size)
  have TL5 := Lib.hid (TL4.out.below hc5)
  have TM5 := Lib.hid (TM4.out.below hc5)
  have hXa5 := hXa4.below hc5 hXa4.lt
  clear hA4 hL4 TL4 TM4 hc5 hXa4
  have c0 := hA5.cell (i := 0) rfl
  go_wp2_with fail
  refine (HWC.out _ TM5.out).mono ?_
  rintro e w6 ⟨rfl, hb6⟩
  rw [show errOf true 2 = 0 from rfl]
  clear c0
  have hA6 := hA5.below hb6 hA5.lt
  have hL6 : Below w.heap.size w w6 := hL5.trans (hb6.mono hL5.size)
  have TL6 := Lib.hid (TL5.out.below hb6)
  have TM6 := Lib.hid (TM5.out.below hb6)
  have hXa6 := hXa5.below hb6 hXa5.lt
  have hXb6 := hXb5.below hb6 hXb5.lt
  clear hA5 hL5 TL5 TM5 hb6 hXa5 hXb5
  have hn6 := Blk.new w6 28 256 (fun _ => 0)
  go_wp2_with (first | (refine wp_storeBlk rfl (.tmp 15) (.tmp 58) rfl w6.heap.size zc _ rfl rfl hn6 ?_))
  intro w7 hXc7 ho7
  have hc7 : Below w6.heap.size w6 w7 := ((Below.refl _ _).alloc (Nat.le_refl _) _).trans (ho7.below (Nat.le_refl _))
  clear hn6 ho7
  have hA7 := hA6.below hc7 hA6.lt
  have hL7 : Below w.heap.size w w7 := hL6.trans (hc7.mono hL6.size)
  have TL7 := Lib.hid (TL6.out.below hc7)
  have TM7 := Lib.hid (TM6.out.below hc7)
  have hXa7 := hXa6.below hc7 hXa6.lt
  have hXb7 := hXb6.below hc7 hXb6.lt
  clear hA6 hL6 TL6 TM6 hc7 hXa6 hXb6
  have c0 := hA7.cell (i := 0) rfl
  go_wp2_with fail
  refine (HWD.out _).mono ?_
  rintro e w8 ⟨rfl, hb8⟩
  rw [show errOf true 2 = 0 from rfl]
  clear c0
  have hA8 := hA7.below hb8 hA7.lt
  have hL8 : Below w.heap.size w w8 := hL7.trans (hb8.mono hL7.size)
  have TL8 := Lib.hid (TL7.out.below hb8)
  have TM8 := Lib.hid (TM7.out.below hb8)
  have hXa8 := hXa7.below hb8 hXa7.lt
  have hXb8 := hXb7.below hb8 hXb7.lt
  have hXc8 := hXc7.below hb8 hXc7.lt
  clear hA7 hL7 TL7 TM7 hb8 hXa7 hXb7 hXc7
  have hn8 := Blk.new w8 28 256 (fun _ => 0)
  go_wp2_with (first | (refine wp_storeBlk rfl (.tmp 17) (.tmp 66) rfl w8.heap.size zd _ rfl rfl hn8 ?_))
  intro w9 hXd9 ho9
  have hc9 : Below w8.heap.size w8 w9 := ((Below.refl _ _).alloc (Nat.le_refl _) _).trans (ho9.below (Nat.le_refl _))
  clear hn8 ho9
  have hA9 := hA8.below hc9 hA8.lt
  have hL9 : Below w.heap.size w w9 := hL8.trans (hc9.mono hL8.size)
  have TL9 := Lib.hid (TL8.out.below hc9)
  have TM9 := Lib.hid (TM8.out.below hc9)
  have hXa9 := hXa8.below hc9 hXa8.lt
  have hXb9 := hXb8.below hc9 hXb8.lt
  have hXc9 := hXc8.below hc9 hXc8.lt
  clear hA8 hL8 TL8 TM8 hc9 hXa8 hXb8 hXc8
  clear HWA HWB HWC HWD hal
  go_wp2_with (first | (refine wp_loadBlk rfl (.tmp 11) rfl w2.heap.size za rfl hXa9 ?_))
  refine (readHead_any za FA.out.byt _).mono ?_
  rintro e w10 ⟨rfl, hb10⟩
  rw [show headRd za = true from FA.out.a.2.2.2, show errOf true 90 = 0 from rfl]
  rw [GA.out.1, GA.out.2]
  have hA10 := hA9.below hb10 hA9.lt
  have hL10 : Below w.heap.size w w10 := hL9.trans (hb10.mono hL9.size)
  have TL10 := Lib.hid (TL9.out.below hb10)
  have TM10 := Lib.hid (TM9.out.below hb10)
  have hXa10 := hXa9.below hb10 hXa9.lt
  have hXb10 := hXb9.below hb10 hXb9.lt
  have hXc10 := hXc9.below hb10 hXc9.lt
  have hXd10 := hXd9.below hb10 hXd9.lt
  clear hA9 hL9 TL9 TM9 hb10 hXa9 hXb9 hXc9 hXd9
  have hcx : Below w10.heap.size w10 (w10.alloc (.cells #[.int .u32 s, .int .i64 t] 24)) := (Below.refl _ _).alloc (Nat.le_refl _) _
  have hH : At (w10.alloc (.cells #[.int .u32 s, .int .i64 t] 24)) w10.heap.size 24 #[.int .u32 s, .int .i64 t] := At.new _ _ _
  have hAx := hA10.below hcx hA10.lt
  have hLx : Below w.heap.size w (w10.alloc (.cells #[.int .u32 s, .int .i64 t] 24)) := hL10.trans (hcx.mono hL10.size)
  have TLx := Lib.hid (TL10.out.below hcx)
  have TMx := Lib.hid (TM10.out.below hcx)
  have hXax := hXa10.below hcx hXa10.lt
  have hXbx := hXb10.below hcx hXb10.lt
  have hXcx := hXc10.below hcx hXc10.lt
  have hXdx := hXd10.below hcx hXd10.lt
  clear hA10 hL10 TL10 TM10 hcx hXa10 hXb10 hXc10 hXd10
  have HLx := Lib.hid hLx
  clear hLx
  go_wp2_with (first | (refine wp_loadBlk rfl (.tmp 13) rfl w4.heap.size zb rfl hXbx ?_))
  refine (readDesc_any zb FB.out.byt _).mono ?_
  rintro e w11 ⟨hb11, ⟨hr, rfl⟩ | ⟨hr, gd, capd, rfl, hownD⟩⟩
  · rw [show descRd zb = true from FB.out.a.1] at hr; cases hr
  have hLx := HLx.out
  clear HLx
  have hH11 := hH.below hb11 hH.lt
  clear hH hr hz0
  have hA11 := hAx.below hb11 hAx.lt
  have hL11 : Below w.heap.size w w11 := hLx.trans (hb11.mono hLx.size)
  have TL11 := Lib.hid (TLx.out.below hb11)
  have TM11 := Lib.hid (TMx.out.below hb11)
  have hXa11 := hXax.below hb11 hXax.lt
  have hXb11 := hXbx.below hb11 hXbx.lt
  have hXc11 := hXcx.below hb11 hXcx.lt
  have hXd11 := hXdx.below hb11 hXdx.lt
  clear hAx hLx TLx TMx hb11 hXax hXbx hXcx hXdx
  obtain ⟨B1, B2, B3⟩ := GB.out
  rw [B1, B2]
  rw [B2] at hownD
  have TD : TagRow w11 (some ⟨gd, 0, none⟩) ln (descT zb) (descE zb) := by
    obtain ⟨a, cp, he, ht, _⟩ := own_tags hownD
    injection he with h1; rw [h1]; exact ht
  have B3' := Lib.hid B3
  have HTD11 := Lib.hid TD
  clear TD hownD B1 B2 B3
  go_wp2_with (first | (refine wp_loadBlk rfl (.tmp 15) rfl w6.heap.size zc rfl hXc11 ?_))
  refine (readRevoke_any zc FC.out.byt _).mono ?_
  rintro e w12 ⟨hb12, ⟨hr, rfl⟩ | ⟨hr, gr, capr, rfl, hownR⟩⟩
  · rw [show revRd zc = true from FC.out.a.2.2.1] at hr; cases hr
  have hH12 := hH11.below hb12 hH11.lt
  clear hH11 hr
  have HTD12 := Lib.hid (HTD11.out.below hb12)
  clear HTD11
  have hA12 := hA11.below hb12 hA11.lt
  have hL12 : Below w.heap.size w w12 := hL11.trans (hb12.mono hL11.size)
  have TL12 := Lib.hid (TL11.out.below hb12)
  have TM12 := Lib.hid (TM11.out.below hb12)
  have hXa12 := hXa11.below hb12 hXa11.lt
  have hXb12 := hXb11.below hb12 hXb11.lt
  have hXc12 := hXc11.below hb12 hXc11.lt
  have hXd12 := hXd11.below hb12 hXd11.lt
  clear hA11 hL11 TL11 TM11 hb12 hXa11 hXb11 hXc11 hXd11
  obtain ⟨C1, C2, C3⟩ := GC.out
  rw [C1, C2]
  rw [C2] at hownR
  have C3' := Lib.hid C3
  have HTR12 := Lib.hid (own_nums hownR)
  clear hownR C1 C2 C3
  go_wp2_with (first | (refine wp_loadBlk rfl (.tmp 17) rfl w8.heap.size zd rfl hXd12 ?_))
  refine (readCommit_any zd FD.out.byt _).mono ?_
  rintro e w13 ⟨rfl, hb13⟩
  rw [GD.out]
  have hH13 := hH12.below hb13 hH12.lt
  clear hH12
  have HTD13 := Lib.hid (HTD12.out.below hb13)
  clear HTD12
  have HTR13 := Lib.hid (HTR12.out.below hb13)
  clear HTR12
  have hA13 := hA12.below hb13 hA12.lt
  have hL13 : Below w.heap.size w w13 := hL12.trans (hb13.mono hL12.size)
  have TL13 := Lib.hid (TL12.out.below hb13)
  have TM13 := Lib.hid (TM12.out.below hb13)
  have hXa13 := hXa12.below hb13 hXa12.lt
  have hXb13 := hXb12.below hb13 hXb12.lt
  have hXc13 := hXc12.below hb13 hXc12.lt
  have hXd13 := hXd12.below hb13 hXd12.lt
  clear hA12 hL12 TL12 TM12 hb13 hXa12 hXb12 hXc12 hXd12
  have qh : ∀ W, (binOp .neq 24 (.agg #[.int .u32 s, .int .i64 t]) (.agg #[.int .u32 s, .int .i64 t])).run Try.prog W = .ok (.bool false) W := fun W => (neq_of_eql (run_eql_head s t s t W)).trans (by simp)
  have c0 := hA13.cell (i := 0) rfl
  go_wp2_with (first | (refine wp_loadAtG rfl 24 (.tmp 19) rfl w10.heap.size #[.int .u32 s, .int .i64 t] _ rfl hH13 Try.underlying24 rfl (by kernel_rfl) ?_) | (refine wp_loadAtG rfl 24 (.tmp 5) rfl w.heap.size #[.int .u32 s, .int .i64 t] _ rfl hA13 Try.underlying24 rfl (by kernel_rfl) ?_))
  refine (sameTags_true (some ⟨gd, 0, none⟩) la ln capd lcap _ _ _ _ _ (by omega) HTD13.out TL13.out B3'.out).mono ?_
  rintro e w14 ⟨rfl, nn14, rfl⟩
  have hb14 : Below w13.heap.size w13 (w13.drewN nn14) := bel_drewN (Below.refl _ _) _
  generalize w13.drewN nn14 = w14 at hb14 ⊢
  have hH14 := hH13.below hb14 hH13.lt
  clear hH13 c0
  have HTR14 := Lib.hid (HTR13.out.below hb14)
  clear HTR13
  have hA14 := hA13.below hb14 hA13.lt
  have hL14 : Below w.heap.size w w14 := hL13.trans (hb14.mono hL13.size)
  have TL14 := Lib.hid (TL13.out.below hb14)
  have TM14 := Lib.hid (TM13.out.below hb14)
  have hXa14 := hXa13.below hb14 hXa13.lt
  have hXb14 := hXb13.below hb14 hXb13.lt
  have hXc14 := hXc13.below hb14 hXc13.lt
  have hXd14 := hXd13.below hb14 hXd13.lt
  clear hA13 hL13 TL13 TM13 hb14 hXa13 hXb13 hXc13 hXd13
  have c0 := hA14.cell (i := 0) rfl
  go_wp2_with fail
  have heq : Hid (eqB (revM zc) mm mn = true) := (eqB_iff _ _ _).2 C3'.out
  refine (sameNum_any (some ⟨gr, 0, none⟩) ma mn capr mcap (revM zc) mm _ (by omega) HTR14.out TM14.out).mono ?_
  rw [heq.out]
  rintro e w15 ⟨rfl, nn15, rfl⟩
  have hb15 : Below w14.heap.size w14 (w14.drewN nn15) := bel_drewN (Below.refl _ _) _
  generalize w14.drewN nn15 = w15 at hb15 ⊢
  clear c0 hH14 HTR14
  have hA15 := hA14.below hb15 hA14.lt
  have hL15 : Below w.heap.size w w15 := hL14.trans (hb15.mono hL14.size)
  have TL15 := Lib.hid (TL14.out.below hb15)
  have TM15 := Lib.hid (TM14.out.below hb15)
  have hXa15 := hXa14.below hb15 hXa14.lt
  have hXb15 := hXb14.below hb15 hXb14.lt
  have hXc15 := hXc14.below hb15 hXc14.lt
  have hXd15 := hXd14.below hb15 hXd14.lt
  clear hA14 hL14 TL14 TM14 hb15 hXa14 hXb14 hXc14 hXd14
  have c0 := hA15.cell (i := 0) rfl
  go_wp2_with (first | (refine wp_loadBlkG rfl (.tmp 11) rfl w2.heap.size za rfl hXa15 ?_))
  refine (one_any za FA.out.byt true 4 (by decide) FA.out.rd FA.out.kind _).mono ?_
  rintro e w16 ⟨rfl, hb16⟩
  clear c0
  have hA16 := hA15.below hb16 hA15.lt
  have hL16 : Below w.heap.size w w16 := hL15.trans (hb16.mono hL15.size)
  have TL16 := Lib.hid (TL15.out.below hb16)
  have TM16 := Lib.hid (TM15.out.below hb16)
  have hXa16 := hXa15.below hb16 hXa15.lt
  have hXb16 := hXb15.below hb16 hXb15.lt
  have hXc16 := hXc15.below hb16 hXc15.lt
  have hXd16 := hXd15.below hb16 hXd15.lt
  clear hA15 hL15 TL15 TM15 hb16 hXa15 hXb15 hXc15 hXd15
  go_wp2_with (first | (refine wp_loadBlkG rfl (.tmp 13) rfl w4.heap.size zb rfl hXb16 ?_))
  refine (one_any zb FB.out.byt true 1 (by decide) FB.out.rd FB.out.kind _).mono ?_
  rintro e w17 ⟨rfl, hb17⟩
  have hA17 := hA16.below hb17 hA16.lt
  have hL17 : Below w.heap.size w w17 := hL16.trans (hb17.mono hL16.size)
  have TL17 := Lib.hid (TL16.out.below hb17)
  have TM17 := Lib.hid (TM16.out.below hb17)
  have hXa17 := hXa16.below hb17 hXa16.lt
  have hXb17 := hXb16.below hb17 hXb16.lt
  have hXc17 := hXc16.below hb17 hXc16.lt
  have hXd17 := hXd16.below hb17 hXd16.lt
  clear hA16 hL16 TL16 TM16 hb17 hXa16 hXb16 hXc16 hXd16
  go_wp2_with (first | (refine wp_loadBlkG rfl (.tmp 15) rfl w6.heap.size zc rfl hXc17 ?_))
  refine (one_any zc FC.out.byt true 3 (by decide) FC.out.rd FC.out.kind _).mono ?_
  rintro e w18 ⟨rfl, hb18⟩
  have hA18 := hA17.below hb18 hA17.lt
  have hL18 : Below w.heap.size w w18 := hL17.trans (hb18.mono hL17.size)
  have TL18 := Lib.hid (TL17.out.below hb18)
  have TM18 := Lib.hid (TM17.out.below hb18)
  have hXa18 := hXa17.below hb18 hXa17.lt
  have hXb18 := hXb17.below hb18 hXb17.lt
  have hXc18 := hXc17.below hb18 hXc17.lt
  have hXd18 := hXd17.below hb18 hXd17.lt
  clear hA17 hL17 TL17 TM17 hb18 hXa17 hXb17 hXc17 hXd17
  go_wp2_with (first | (refine wp_loadBlkG rfl (.tmp 17) rfl w8.heap.size zd rfl hXd18 ?_))
  refine (one_any zd FD.out.byt true 2 (by decide) FD.out.rd FD.out.kind _).mono ?_
  rintro e w19 ⟨rfl, hb19⟩
  have hA19 := hA18.below hb19 hA18.lt
  have hL19 : Below w.heap.size w w19 := hL18.trans (hb19.mono hL18.size)
  have TL19 := Lib.hid (TL18.out.below hb19)
  have TM19 := Lib.hid (TM18.out.below hb19)
  have hXa19 := hXa18.below hb19 hXa18.lt
  have hXb19 := hXb18.below hb19 hXb18.lt
  have hXc19 := hXc18.below hb19 hXc18.lt
  have hXd19 := hXd18.below hb19 hXd18.lt
  clear hA18 hL18 TL18 TM18 hb19 hXa18 hXb18 hXc18 hXd18
  go_wp2_with fail
  go_ret
  exact ⟨rfl, hL19⟩
end Go.Proofs.Ytahobhifafiaeaa
