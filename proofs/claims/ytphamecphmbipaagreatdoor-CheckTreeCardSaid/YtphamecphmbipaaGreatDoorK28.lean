/- Texts of this claim, merged. -/
import Derived.Test.YtphamecphmbipaaGreatDoorK23
import Derived.Test.YtphamecphmbipaaGreatDoorK20
import Derived.Test.YtphamecphmbipaaGreatDoorK25
import Derived.Test.YtphamecphmbipaaGreatDoorK26
import Derived.Test.YtphamecphmbipaaGreatDoorK27
set_option maxRecDepth 100000
set_option maxHeartbeats 16000000

namespace Go.Proofs.YtphamecphmbipaaGreatDoor
open Go.RowKit
set_option linter.unusedVariables false
theorem info_bool18:(Tryz.prog.info? 4).map (fun i => (i.zero,i.size,i.bytes)) = some (some (.bool false),1,1):=by kernel_rfl
theorem run_mkbools (W:World):(Instr.makeSlice 132 (.int .i64 2048) (.int .i64 2048)).run Tryz.prog W = .ok (.slice (some ⟨W.heap.size,0,none⟩) 2048 2048) (W.alloc (.cells (madeCells #[.bool false] (2048 * 1)) 4)) :=
 run_mkrow (P:=Tryz.prog) 132 4 (.bool false) 1 1 Tryz.underlying132 info_bool18 .i64 .i64 2048 (by omega) (by omega) W
theorem bt_div (z:Nat → Int) (i:Nat):bt z i = decide ((z (i / 8)).toNat / 2 ^ (i % 8) % 2 = 1):=by
 unfold bt;rw [Nat.testBit_eq_decide_div_mod_eq]
def btK (z:Nat → Int) (k i:Nat):Bool:=if i < k then bt z i else false
theorem btK_next (z:Nat → Int) (k i:Nat):(if i = k then bt z k else btK z k i) = btK z (k + 1) i:=by
 unfold btK
 by_cases e:i = k
 ·subst e;rw [if_pos rfl,if_pos (by omega)]
 ·rw [if_neg e]
  by_cases h:i < k
  ·rw [if_pos h,if_pos (by omega)]
  ·rw [if_neg h,if_neg (by omega)]
structure O4S (w:World) (z:Nat → Int) (q:Nat) (P:Nat → Bool) (W:World):Prop where
 b:Blk W w.heap.size 32 256 z
 l:RArr W q 4 1 2048 (boF P)
 n:w.heap.size < q
 bel:Below w.heap.size w W
theorem bo_set {W:World} {q k n:Nat} {P:Nat → Bool} {T:TypeId} (h:RArr W q T 1 n (boF P)) (hk:k < n) (v:Bool):RArr (W.setCell ⟨q,k,none⟩ (.bool v)) q T 1 n (boF (updN P k v)):=by
 have:=h.cellset (k:=k) (j:=0) hk (by decide) (fun i => boF_len P i) (.bool v)
 rw [Nat.mul_one,Nat.add_zero] at this
 refine this.congr fun i hi => ?_
 unfold boF updN
 by_cases e:i = k
 ·rw [if_pos e,if_pos e];rfl
 ·rw [if_neg e,if_neg e]
theorem O4S.set {w:World} {z:Nat → Int} {q k:Nat} {W:World} (h:O4S w z q (btK z k) W) (hk:k < 2048):O4S w z q (btK z (k + 1)) (W.setCell ⟨q,k,none⟩ (.bool (bt z k))):=by
 have ho:=Only.setCell W ⟨q,k,none⟩ (.bool (bt z k))
 have hn:=h.n
 refine ⟨Blk.only h.b ho (by show w.heap.size ≠ q;omega),(bo_set h.l hk (bt z k)).congr fun i hi => ?_,h.n,h.bel.trans (ho.below (by show w.heap.size ≤ q;omega))⟩
 unfold boF updN
 rw [← btK_next]
theorem rOf4_any (z:Nat → Int) (hz:Byt z) (w:World):Calls Tryz.prog 110 #[bval z] w fun e w' => ∃ q,e = .returned (.slice (some ⟨q,0,none⟩) 2048 2048) ∧ w.heap.size ≤ q ∧ RArr w' q 4 1 2048 (boF (bt z)) ∧ Below w.heap.size w w':=by
 have hmk:=run_mkbools
 have hB0:=Blk.new w 32 256 z
 have hb0:Below w.heap.size w (w.alloc (.cells (Ks .u8 256 z).toArray 32)):=(Below.refl _ _).alloc (Nat.le_refl _) _
 obtain ⟨W0,hW0⟩:∃ W0,W0 = w.alloc (.cells (Ks .u8 256 z).toArray 32):=⟨_,rfl⟩
 have hsz:W0.heap.size = w.heap.size + 1:=by rw [hW0,World.size_alloc]
 obtain ⟨q,hq⟩:∃ q,q = w.heap.size + 1:=⟨_,rfl⟩
 obtain ⟨W1,hW1⟩:∃ W1,W1 = W0.alloc (.cells (madeCells #[.bool false] 2048) 4):=⟨_,rfl⟩
 rw [← hW0] at hB0 hb0
 have ST0:Hid (O4S w z q (btK z 0) W1):=by
  rw [hW1]
  refine ⟨hB0.alloc _,?_,by omega,hb0.alloc (by omega) _⟩
  have:=RArr.made (m:=1) W0 #[.bool false] rfl (by omega) 2048 4
  rw [hsz,← hq] at this
  exact this.congr fun i hi => rfl
 have HW0:=Lib.hid (And.intro hW0 (And.intro hq hW1))
 have HZ:=Lib.hid hz
 clear hB0 hb0 hsz hW0 hq hW1 hz
 go_enter Tryz.func110,Tryz.ntmps110
 go_wp2_with fail
 rw [← HW0.out.1,← HW0.out.2.1,← HW0.out.2.2]
 clear HW0 hmk
 go_loopw [4,5,6] (fun u _ _ wr => ∃ i:Nat,i ≤ 2048 ∧ u = .int .i64 (i:Int) ∧ O4S w z q (btK z i) wr) (fun u _ _ _ => 2048 - (intOf u).toNat)
 case atStart => exact ⟨0,by omega,rfl,ST0.out⟩
 case round =>
  clear ST0
  obtain ⟨i,hi,rfl,st⟩:=hrel
  by_cases hlt:i < 2048
  ·have hlt':(i:Int) < 2048:=by omega
   have h0:(i:Int).tdiv 8 = ((i / 8:Nat):Int):=by rw [Int.tdiv_eq_ediv_of_nonneg (by omega)];omega
   have h1:(i:Int).tmod 8 = ((i % 8:Nat):Int):=by rw [Int.tmod_eq_emod_of_nonneg (by omega)];omega
   have hk8:i / 8 < 256:=by omega
   have hm8:i % 8 < 8:=Nat.mod_lt _ (by decide)
   obtain ⟨X,hX⟩:∃ X:Nat,X = (z (i / 8)).toNat:=⟨_,rfl⟩
   have hX9:X < 256:=by have:=HZ.out (i / 8);omega
   have c0:wr.cell? ⟨w.heap.size,i / 8,none⟩ = some (.int .u8 (X:Int)):=by
    have:=st.b.seg (i / 8) hk8
    rw [Nat.zero_add] at this
    rw [this,hX,Int.toNat_of_nonneg (HZ.out (i / 8)).1]
   have HBT:Hid (bt z i = decide (X / 2 ^ (i % 8) % 2 = 1)):=by show _ = _;rw [bt_div,← hX]
   have ST:=Lib.hid st
   obtain ⟨k,hk⟩:∃ k,k = i / 8:=⟨_,rfl⟩
   obtain ⟨m,hm⟩:∃ m,m = i % 8:=⟨_,rfl⟩
   rw [← hk] at h0 c0 hk8
   rw [← hm] at h1 HBT hm8
   have hk0:(0:Int) ≤ (k:Int):=by omega
   have hk1:(k:Int) < 256:=by omega
   clear hX hk hm st
   go_wp2_with fail
   clear c0 h0
   go_loopw [5,6] (fun u5 u6 wr => ∃ k:Nat,k ≤ m ∧ u6 = .int .i64 (k:Int) ∧ u5 = .int .i64 ((X / 2 ^ k:Nat):Int) ∧ O4S w z q (btK z i) wr) (fun _ u6 _ => m - (intOf u6).toNat)
   case atStart => exact ⟨0,by omega,rfl,by rw [Nat.pow_zero,Nat.div_one],ST.out⟩
   case round =>
    clear ST
    obtain ⟨k',hk',rfl,rfl,st⟩:=hrel
    have hY:X / 2 ^ k' ≤ X:=Nat.div_le_self _ _
    have HN:Hid (X / 2 ^ k' / 2 = X / 2 ^ (k' + 1)):=by show _ = _;rw [Nat.div_div_eq_div_mul,Nat.pow_succ]
    obtain ⟨Y,hYd⟩:∃ Y,Y = X / 2 ^ k':=⟨_,rfl⟩
    rw [← hYd] at hY HN ⊢
    have HYD:=Lib.hid hYd
    clear hYd
    have ST:=Lib.hid st
    by_cases hlk:k' < m
    ·have hlk':(k':Int) < (m:Int):=by omega
     have hd:(Y:Int).tdiv 2 = ((Y / 2:Nat):Int):=by rw [Int.tdiv_eq_ediv_of_nonneg (by omega)];omega
     clear st
     go_wp2_with fail
     go_roundw
     case rel => exact ⟨k' + 1,by omega,by go_num,by rw [← HN.out];congr 1,ST.out⟩
     case measure => simp [intOf];omega
    ·obtain rfl:k' = m:=by omega
     obtain ⟨R,hR⟩:∃ R,R = (Y:Int).tmod 2:=⟨_,rfl⟩
     have hRB:(R == 1) = bt z i:=by
      rw [HBT.out,← HYD.out,hR,Int.tmod_eq_emod_of_nonneg (by omega)]
      rw [Bool.eq_iff_iff,beq_iff_eq,decide_eq_true_eq]
      omega
     have ci:wr.cell? ⟨q,i,none⟩ = some (.bool (btK z i i)):=by
      have:=st.l.seg i hlt 0 _ rfl
      rwa [Nat.zero_add,Nat.mul_one,Nat.add_zero] at this
     have fi:wr.frozen? ⟨q,i,none⟩ = false:=st.l.soft i
     have HS:=Lib.hid (st.set hlt)
     have hR2:=hR.symm
     clear st ST hR HN HYD HBT
     obtain ⟨V,hV⟩:∃ V,V = bt z i:=⟨_,rfl⟩
     rw [← hV] at hRB
     have HV:=Lib.hid hV
     clear hV
     cases V with
     | true =>
      go_wp2_with fail
      go_roundw
      case rel => exact ⟨i + 1,by omega,by go_num,by have:=HS.out;rw [← HV.out] at this;exact this⟩
      case measure => simp [intOf];omega
     | false =>
      go_wp2_with fail
      go_roundw
      case rel => exact ⟨i + 1,by omega,by go_num,by have:=HS.out;rw [← HV.out] at this;exact this⟩
      case measure => simp [intOf];omega
  ·obtain rfl:i = 2048:=by omega
   have ST:=Lib.hid st
   clear st hlt
   go_wp2_with fail
   go_ret
   exact ⟨q,rfl,by have:=ST.out.n;omega,ST.out.l.congr fun i hi => by unfold boF btK;rw [if_pos hi],ST.out.bel⟩
structure TnS (w:World) (z:Nat → Int) (q:Nat) (P:Nat → Bool) (W:World):Prop where
 b:Blk W w.heap.size 32 256 z
 r:Blk W (w.heap.size + 1) 32 256 (fun _ => 0)
 l:RArr W q 4 1 2048 (boF P)
 n:w.heap.size + 2 ≤ q
 bel:Below w.heap.size w W
theorem setB_id {P:Nat → Bool} {i:Nat} (h:P i = true):setB P i = P:=by
 funext j;unfold setB;split
 ·rename_i e;rw [e,h]
 ·rfl
theorem bZ_bt_fun {z:Nat → Int} (hz:Byt z):bZ (bt z) = z:=funext (bZ_bt hz)
theorem boRow_of {W:World} {q:Nat} {P:Nat → Bool} {T:TypeId} (h:RArr W q T 1 2048 (boF P)):RRow W (some ⟨q,0,none⟩) 1 2048 (boF P):=.inr ⟨q,0,rfl,h.seg⟩
theorem rTurn4_any (z:Nat → Int) (hz:Byt z) (i:Nat) (hi:i < 2048) (w:World):Calls Tryz.prog 109 #[bval z,.int .i64 (i:Int),.bool true] w fun e w' => e = .returned (.tuple #[bval (bZ (setB (bt z) i)),.bool (!bt z i)]) ∧ Below w.heap.size w w':=by
 have hal:=zero_block
 have hB:=(Blk.new w 32 256 z).alloc (.cells (Ks .u8 256 (fun _ => 0)).toArray 32)
 have hR:=Blk.new (w.alloc (.cells (Ks .u8 256 z).toArray 32)) 32 256 (fun _ => 0)
 rw [World.size_alloc] at hR
 have hb0:Below w.heap.size w ((w.alloc (.cells (Ks .u8 256 z).toArray 32)).alloc (.cells (Ks .u8 256 (fun _ => 0)).toArray 32)):=((Below.refl _ _).alloc (Nat.le_refl _) _).alloc (by simp) _
 have hsz:((w.alloc (.cells (Ks .u8 256 z).toArray 32)).alloc (.cells (Ks .u8 256 (fun _ => 0)).toArray 32)).heap.size = w.heap.size + 2:=by simp
 have H0:=Lib.hid (And.intro hR (And.intro hb0 hsz))
 have d1:decide ((i:Int) < 0) = false:=decide_eq_false (by omega)
 have d2:decide ((2048:Int) ≤ (i:Int)) = false:=decide_eq_false (by omega)
 have d2':decide (2048 ≤ i) = false:=decide_eq_false (by omega)
 clear hR hb0 hsz
 go_enter Tryz.func109,Tryz.ntmps109
 go_wp2_with (first | (refine wp_loadBlk rfl _ rfl _ _ rfl hB ?_))
 refine (rOf4_any z hz _).mono ?_
 rintro e w1 ⟨q,rfl,hq,hl,hb1⟩
 have st1:TnS w z q (bt z) w1:=⟨hB.below hb1 hB.lt,H0.out.1.below hb1 H0.out.1.lt,hl,by have:=H0.out.2.2;omega,H0.out.2.1.trans (hb1.mono H0.out.2.1.size)⟩
 have hB1:=st1.b
 have hR1:=st1.r
 have ci:w1.cell? ⟨q,i,none⟩ = some (.bool (bt z i)):=by
  have:=st1.l.seg i hi 0 _ rfl
  rwa [Nat.zero_add,Nat.mul_one,Nat.add_zero] at this
 have fi:w1.frozen? ⟨q,i,none⟩ = false:=st1.l.soft i
 have hi0:(i:Int) < 2048:=by omega
 have ST1:=Lib.hid st1
 have HZ:=Lib.hid hz
 clear hB hl hb1 H0 st1 hq hz
 obtain ⟨V,hV⟩:∃ V,V = bt z i:=⟨_,rfl⟩
 rw [← hV] at ci
 have HV:=Lib.hid hV
 clear hV
 cases V with
 | true =>
  go_wp2_with (first | (refine wp_loadBlk rfl _ rfl _ _ rfl hB1 ?_) | (refine wp_storeBlk rfl _ _ rfl _ z _ rfl rfl hR1 ?_))
  intro w2 hR2 ho2
  go_wp2_with fail
  exact bodyPost_ret (results_blk_tmp rfl _ _ (w.heap.size + 1) _ rfl hR2) rfl ⟨by rw [setB_id HV.out.symm,bZ_bt_fun HZ.out,← HV.out];rfl,ST1.out.bel.trans (ho2.below (by omega))⟩
 | false =>
  have HL:=Lib.hid (bo_set ST1.out.l hi true)
  have ho:=Only.setCell w1 ⟨q,i,none⟩ (.bool true)
  have hn:=ST1.out.n
  have hR2:=hR1.only ho (by show w.heap.size + 1 ≠ q;omega)
  have HB2:=Lib.hid (ST1.out.bel.trans (ho.below (by show w.heap.size ≤ q;omega)))
  have HQ:Hid (q < (w1.setCell ⟨q,i,none⟩ (.bool true)).heap.size):=HL.out.lt
  clear hR1 hB1 ho
  go_wp2_with fail
  refine (rBits4_any (updN (bt z) i true) (some ⟨q,0,none⟩) 2048 _ (boRow_of HL.out) (fun b off e => by injection e with e;injection e with e;subst e;exact HQ.out)).mono ?_
  rintro e w3 ⟨rfl,hb3⟩
  have hR3:=hR2.below hb3 hR2.lt
  have HB3:=Lib.hid (HB2.out.trans (hb3.mono HB2.out.size))
  clear hR2 HB2 hb3 ci fi
  go_wp2_with (first | (refine wp_storeBlk rfl _ _ rfl _ (bZ (updN (bt z) i true)) _ rfl rfl hR3 ?_))
  intro w4 hR4 ho4
  go_wp2_with fail
  exact bodyPost_ret (results_blk_tmp rfl _ _ (w.heap.size + 1) _ rfl hR4) rfl ⟨by rw [← HV.out];rfl,HB3.out.trans (ho4.below (by omega))⟩
theorem rCount4_any (z:Nat → Int) (hz:Byt z) (n:Nat) (hn:n ≤ 2048) (w:World):Calls Tryz.prog 70 #[bval z,.int .i64 (n:Int)] w fun e w' => e = .returned (.int .i64 ((cntB (bt z) n:Nat):Int)) ∧ Below w.heap.size w w':=by
 have hB:=Blk.new w 32 256 z
 have HL0:Hid (Below w.heap.size w (w.alloc (.cells (Ks .u8 256 z).toArray 32))):=(Below.refl _ _).alloc (Nat.le_refl _) _
 go_enter Tryz.func70,Tryz.ntmps70
 go_wp2_with (first | (refine wp_loadBlk rfl _ rfl _ _ rfl hB ?_))
 refine (rOf4_any z hz _).mono ?_
 rintro e w1 ⟨q,rfl,hq,hl,hb1⟩
 have HLL:=Lib.hid hl
 have HL1:=Lib.hid (HL0.out.trans (hb1.mono HL0.out.size))
 have HCL:Hid (∀ k,cntB (bt z) k ≤ k):=fun k => cntB_le _ k
 clear hB hl hb1 HL0 hq hz
 go_wp2_with fail
 go_loop [6,7] (fun u v => ∃ i:Nat,i ≤ 2048 ∧ v = .int .i64 (i:Int) ∧ u = .int .i64 ((cntB (bt z) (min i n):Nat):Int)) (fun _ v => 2048 - (intOf v).toNat)
 case atStart => exact ⟨0,by omega,rfl,by rw [Nat.zero_min];rfl⟩
 case round =>
  obtain ⟨i,hi,rfl,rfl⟩:=hrel
  by_cases hlt:i < 2048
  ·have hlt':(i:Int) < 2048:=by omega
   have ci:w1.cell? ⟨q,i,none⟩ = some (.bool (bt z i)):=by
    have:=HLL.out.seg i hlt 0 _ rfl
    rwa [Nat.zero_add,Nat.mul_one,Nat.add_zero] at this
   by_cases hin:i < n
   ·have e1:min i n = i:=by omega
    have e2:min (i + 1) n = i + 1:=by omega
    rw [e1]
    have HN:Hid (cntB (bt z) (min (i + 1) n) = cntB (bt z) i + if bt z i then 1 else 0):=by show _ = _;rw [e2,cntB]
    have hc:=HCL.out i
    obtain ⟨C,hC⟩:∃ C,C = cntB (bt z) i:=⟨_,rfl⟩
    obtain ⟨V,hV⟩:∃ V,V = bt z i:=⟨_,rfl⟩
    rw [← hC] at HN hc ⊢
    rw [← hV] at HN ci
    have hin':(i:Int) < (n:Int):=by omega
    have hd:decide ((i:Int) < (n:Int)) = true:=decide_eq_true hin'
    have hd':decide (i < n) = true:=decide_eq_true hin
    clear hC hV e1 e2
    cases V with
    | true =>
     have HN2:Hid (cntB (bt z) (min (i + 1) n) = C + 1):=by show _ = _;rw [HN.out,if_pos rfl]
     clear HN
     go_wp2_with fail
     go_round
     case rel => exact ⟨i + 1,by omega,by go_num,by rw [HN2.out];go_num⟩
     case measure => simp [intOf];omega
    | false =>
     have HN2:Hid (cntB (bt z) (min (i + 1) n) = C):=by show _ = _;rw [HN.out,if_neg (by decide)];rfl
     clear HN
     go_wp2_with fail
     go_round
     case rel => exact ⟨i + 1,by omega,by go_num,by rw [HN2.out]⟩
     case measure => simp [intOf];omega
   ·have e1:min i n = n:=by omega
    have HN2:Hid (min (i + 1) n = min i n):=by show _ = _;omega
    have hd:decide ((i:Int) < (n:Int)) = false:=decide_eq_false (by omega)
    have hd':decide (i < n) = false:=decide_eq_false hin
    clear e1
    go_wp2_with fail
    go_round
    case rel => exact ⟨i + 1,by omega,by go_num,by rw [HN2.out]⟩
    case measure => simp [intOf];omega
  ·obtain rfl:i = 2048:=by omega
   have HE:Hid (min 2048 n = n):=by show _ = _;omega
   go_wp2_with fail
   go_ret
   exact ⟨rfl,HL1.out⟩
structure GwS (S:Nat → Prop) (w w':World):Prop where
 os:w'.os = w.os
 tape:w'.tape = w.tape
 output:w'.output = w.output
 size:w.heap.size ≤ w'.heap.size
 block:∀ j,j < w.heap.size → ¬ S j → w'.heap[j]? = w.heap[j]?
theorem GwS.refl (S:Nat → Prop) (w:World):GwS S w w:=⟨rfl,rfl,rfl,Nat.le_refl _,fun _ _ _ => rfl⟩
theorem GwS.trans {S:Nat → Prop} {a b c:World} (h:GwS S a b) (k:GwS S b c):GwS S a c :=
 ⟨k.os.trans h.os,k.tape.trans h.tape,k.output.trans h.output,Nat.le_trans h.size k.size,fun j hj hn => (k.block j (Nat.lt_of_lt_of_le hj h.size) hn).trans (h.block j hj hn)⟩
theorem GwS.of_below {S:Nat → Prop} {a b:World} (h:Below a.heap.size a b):GwS S a b:=⟨h.os,h.tape,h.output,h.size,fun j hj _ => h.block j hj⟩
theorem GwS.of_only {S:Nat → Prop} {a b:World} {g:Nat} (h:Only g a b) (hg:S g):GwS S a b:=⟨h.os,h.tape,h.output,by rw [h.size];exact Nat.le_refl _,fun j _ hn => h.block j (fun e => hn (e ▸ hg))⟩
theorem GwS.of_grown {S:Nat → Prop} {a b:World} {g:Nat} (h:a.grownBy b (some g)) (hg:S g):GwS S a b:=⟨h.os,h.tape,h.output,h.size,fun j hj hn => h.block j hj (fun e => hn (by injection e with e;exact e ▸ hg))⟩
theorem GwS.mono {S T:Nat → Prop} {a b:World} (h:GwS S a b) (hs:∀ j,S j → T j):GwS T a b:=⟨h.os,h.tape,h.output,h.size,fun j hj hn => h.block j hj (fun e => hn (hs j e))⟩
theorem GwS.below {S:Nat → Prop} {a b:World} (h:GwS S a b) {B:Nat} (hB:B ≤ a.heap.size) (hs:∀ j,S j → B ≤ j):Below B a b:=⟨h.os,h.tape,h.output,h.size,fun j hj => h.block j (by omega) (fun e => by have:=hs j e;omega)⟩
theorem At.gwS {S:Nat → Prop} {w w':World} {g:Nat} {T:TypeId} {cs:Array Value} (h:At w g T cs) (k:GwS S w w') (hg:¬ S g):At w' g T cs:=(k.block g h.lt hg).trans h
theorem RArr.gwS {S:Nat → Prop} {w w':World} {g m n:Nat} {T:TypeId} {f:Nat → List Value} (h:RArr w g T m n f) (k:GwS S w w') (hg:¬ S g):RArr w' g T m n f:=h.of_block (k.block g h.lt hg)
theorem RRow.gwS {S:Nat → Prop} {w w':World} {a:Option Addr} {m n:Nat} {f:Nat → List Value} (h:RRow w a m n f) (k:GwS S w w') (ha:∀ b off,a = some ⟨b,off,none⟩ → 0 < n → b < w.heap.size ∧ ¬ S b):RRow w' a m n f:=by
 rcases h with h | ⟨b,off,rfl,hs⟩
 ·exact .inl h
 ·by_cases hn:n = 0
  ·exact .inl hn
  ·obtain ⟨h1,h2⟩:=ha b off rfl (by omega)
   exact .inr ⟨b,off,rfl,fun i hi j v hv => (World.cell?_of_block (w:=w) (a:=⟨b,off + i * m + j,none⟩) (k.block b h1 h2)).trans (hs i hi j v hv)⟩
abbrev plcells (q n g s i j next:Nat) (f:Bool):Array Value:=#[.slice (some ⟨q,0,none⟩) n n,.int .i64 (g:Int),.int .i64 (s:Int),.int .i64 (i:Int),.int .i64 (j:Int),.int .i64 (next:Int),.bool f]
structure PlM (M q:Nat) (x:Im) (m:MS) (W:World):Prop where
 k:∃ f:Bool,At W M 85 (plcells q x.n x.g x.s x.i x.j m.next f)
 im:RArr W q 32 256 x.n (bkF m.L)
section
variable {M q:Nat} {x:Im} {m:MS} {W W':World}
theorem PlM.below (h:PlM M q x m W) (hb:Below W.heap.size W W'):PlM M q x m W':=by
 obtain ⟨f,hf⟩:=h.k
 exact ⟨⟨f,hf.below hb hf.lt⟩,h.im.below hb⟩
theorem PlM.ne (h:PlM M q x m W):M ≠ q:=by
 obtain ⟨f,hf⟩:=h.k
 obtain ⟨cs,hc,_⟩:=h.im.blk
 exact At.unlike hf hc (by decide)
theorem PlM.geo (h:PlM M q x m W):W.rangeAt M 1 (gcells x.g x.s x.i x.j).toList:=fun k v hk => by
 obtain ⟨f,hf⟩:=h.k
 match k,hk with
 | 0,hk => injection hk with hk;subst hk;exact hf.cell (i:=1) rfl
 | 1,hk => injection hk with hk;subst hk;exact hf.cell (i:=2) rfl
 | 2,hk => injection hk with hk;subst hk;exact hf.cell (i:=3) rfl
 | 3,hk => injection hk with hk;subst hk;exact hf.cell (i:=4) rfl
 | k + 4,hk => cases hk
theorem PlM.c0 (h:PlM M q x m W):W.cell? ⟨M,0,none⟩ = some (.slice (some ⟨q,0,none⟩) x.n x.n):=by obtain ⟨f,hf⟩:=h.k;exact hf.cell (i:=0) rfl
theorem PlM.c5 (h:PlM M q x m W):W.cell? ⟨M,5,none⟩ = some (.int .i64 (m.next:Int)):=by obtain ⟨f,hf⟩:=h.k;exact hf.cell (i:=5) rfl
theorem PlM.soft (h:PlM M q x m W) (i:Nat):W.frozen? ⟨M,i,none⟩ = false:=by obtain ⟨f,hf⟩:=h.k;exact soft_of_heap hf i
theorem PlM.put (h:PlM M q x m W) {b:Nat} (hb:b < x.n) (z:Nat → Int):PlM M q x (m.put b z) (W.setCells q (b * 256) (Ks .u8 256 z)) ∧ Only q W (W.setCells q (b * 256) (Ks .u8 256 z)):=by
 obtain ⟨h1,h2⟩:=h.im.set hb (vs:=Ks .u8 256 z) (by simp [Ks]) (bkF_len _)
 obtain ⟨f,hf⟩:=h.k
 refine ⟨⟨⟨f,hf.only h2 h.ne⟩,h1.congr fun c _ => ?_⟩,h2⟩
 show _ = bkF (updN m.L b z) c
 unfold bkF updN
 split <;> rfl
end
theorem r_call3p {P:Program} {W:World} {o:Oper} {a:Act} (f:FuncId) (x y z:Operand) (tys:Array TypeId) (u v u2:Value) (ho:o.op = .call { callee:=.value (.func f),args:=#[x,y,z],argTypes:=tys }) (hx:a.eval x = u) (hy:a.eval y = v) (hz:a.eval z = u2)
  (hr:((do let d ← Deferred.ofValue (a.eval (.func f)) #[u,v,u2];invoke d.target d.args):Sem Next).run P W = .ok (.enter f #[u,v,u2]) W):(execOp a.eval o).run P W = .ok (.enter f #[u,v,u2]) W:=by
 rw [← hr]
 unfold execOp
 rw [ho]
 simp only [resolve]
 simp [hx,hy,hz]
structure PbS (M q:Nat) (x:Im) (m:MS) (w W:World):Prop where
 m:PlM M q x m W
 gr:w.grownBy W (some q)
theorem PbS.below {M q:Nat} {x:Im} {m:MS} {w W W':World} (h:PbS M q x m w W) (hb:Below W.heap.size W W'):PbS M q x m w W':=⟨h.m.below hb,grown_trans h.gr (grown_below hb)⟩
theorem PbS.put {M q:Nat} {x:Im} {m:MS} {w W:World} (h:PbS M q x m w W) {b:Nat} (hb:b < x.n) (z:Nat → Int):PbS M q x (m.put b z) w (W.setCells q (b * 256) (Ks .u8 256 z)) :=
 ⟨(h.m.put hb z).1,grown_trans h.gr (grown_only (h.m.put hb z).2)⟩
def V7 (q b bit:Nat) (y z:Nat → Int) (B:Bool) (l:Nat → Bool) (k:Nat) (v:Value):Prop :=
 if k = 15 then v = bval y else if k = 16 then v = .int .i64 (bit:Int)
 else if k = 17 ∨ k = 18 then v = .tuple #[bval z,.bool B] ∧ l 15 = true
 else if k = 19 then v = bval z ∧ l 15 = true
 else if k = 20 then v = .bool B
 else if k = 21 then v = .pointer (some ⟨q,0 + b * 256,none⟩) else v = undef
theorem V7.up {q b bit:Nat} {y z:Nat → Int} {B:Bool} {l l':Nat → Bool} {k:Nat} {v:Value} (h:V7 q b bit y z B l k v) (hl:l 15 = true → l' 15 = true):V7 q b bit y z B l' k v:=by
 unfold V7 at h ⊢
 split <;> rename_i h1
 ·rwa [if_pos h1] at h
 rw [if_neg h1] at h
 split <;> rename_i h2
 ·rwa [if_pos h2] at h
 rw [if_neg h2] at h
 split <;> rename_i h3
 ·rw [if_pos h3] at h;exact ⟨h.1,hl h.2⟩
 rw [if_neg h3] at h
 split <;> rename_i h4
 ·rw [if_pos h4] at h;exact ⟨h.1,hl h.2⟩
 rwa [if_neg h4] at h
structure S7 (M q:Nat) (x:Im) (m:MS) (b:Nat) (z:Nat → Int) (w:World) (l:Nat → Bool) (W:World):Prop where
 no:l 22 = false → PbS M q x m w W
 ye:l 22 = true → PbS M q x (m.put b z) w W ∧ l 15 = true
theorem S7.below {M q:Nat} {x:Im} {m:MS} {b:Nat} {z:Nat → Int} {w:World} {l:Nat → Bool} {W W':World} (h:S7 M q x m b z w l W) (hb:Below W.heap.size W W'):S7 M q x m b z w l W' :=
 ⟨fun e => (h.no e).below hb,fun e => ⟨(h.ye e).1.below hb,(h.ye e).2⟩⟩
theorem S7.c0 {M q:Nat} {x:Im} {m:MS} {b:Nat} {z:Nat → Int} {w:World} {l:Nat → Bool} {W:World} (h:S7 M q x m b z w l W):W.cell? ⟨M,0,none⟩ = some (.slice (some ⟨q,0,none⟩) x.n x.n):=by
 cases e:l 22 with
 | false => exact (h.no e).m.c0
 | true => exact (h.ye e).1.m.c0
theorem S7.next {M q:Nat} {x:Im} {m:MS} {b:Nat} {z:Nat → Int} {w:World} {l:Nat → Bool} {W:World} (h:S7 M q x m b z w l W) {k:Nat} (hk:k ≠ 22):S7 M q x m b z w (fun j => j == k || l j) W:=by
 have e:((22 == k) || l 22) = l 22:=by rw [show (22 == k) = false from by simpa using Ne.symm hk,Bool.false_or]
 exact ⟨fun h' => h.no (e ▸ h'),fun h' => ⟨(h.ye (e ▸ h')).1,by show ((15 == k) || l 15) = true;rw [(h.ye (e ▸ h')).2,Bool.or_true]⟩⟩
theorem mkSet_any (M q:Nat) (x:Im) (hx:x.Ok) (m:MS) (hL:∀ b,Byt (m.L b)) (k d bit:Nat) (hk:k < x.g) (hd:d < 2) (hbit:bit < 2048) (w:World) (h:PlM M q x m w) :
  Calls Tryz.prog 68 #[.pointer (some ⟨M,0,none⟩),.int .i64 (k:Int),.int .i64 (d:Int),.int .i64 (bit:Int)] w fun e w' => e = .returned (.tuple #[]) ∧ PbS M q x (m.set x k d bit) w w':=by
 obtain ⟨h1,h2,h3,h4,h5,h6,h7,h8,h9,h10,h11⟩:=mayN hx.may
 have hn9:=hx.n_le
 have hst:x.st k + d < x.n:=hx.st hk (by omega)
 have hrg:=h.geo
 have ST0:Hid (PbS M q x m w w):=⟨h,grown_below (Below.refl _ _)⟩
 have HX:=Lib.hid hx
 have HL:=Lib.hid hL
 clear hx h hL
 go_enter Tryz.func68,Tryz.ntmps68
 go_wp2_with (first | (refine wp_loadMid rfl 23 (.tmp 13) rfl M 1 (gcells x.g x.s x.i x.j).toList _ rfl hrg Tryz.underlying23 rfl (by kernel_rfl) ?_))
 refine (rStart5_any x.g x.s x.i x.j k HX.out.may hk _).mono ?_
 rintro e w1 ⟨rfl,hb1⟩
 have ST1:=Lib.hid (ST0.out.below hb1)
 rw [show ((2 + x.j + k * x.s:Nat):Int) = ((x.st k:Nat):Int) from rfl]
 obtain ⟨S,hS⟩:∃ S,S = x.st k:=⟨_,rfl⟩
 rw [← hS] at hst ⊢
 have HS:=Lib.hid hS
 have hS9:S + d ≤ 2048:=by omega
 obtain ⟨b,hb⟩:∃ b,b = S + d:=⟨_,rfl⟩
 have hbd:(S:Int) + (d:Int) = (b:Int):=by omega
 have hbn:b < x.n:=by omega
 have HBB:=Lib.hid hb
 obtain ⟨z,hz⟩:∃ z,z = turnZ (m.L b) bit:=⟨_,rfl⟩
 have HZ:=Lib.hid hz
 obtain ⟨B,hB⟩:∃ B,B = !bt (m.L b) bit:=⟨_,rfl⟩
 have HTN:Hid (∀ W,Calls Tryz.prog 109 #[bval (m.L b),.int .i64 (bit:Int),.bool true] W fun e w' => e = .returned (.tuple #[bval z,.bool B]) ∧ Below W.heap.size W w'):=fun W => by
  rw [hz,hB];exact rTurn4_any (m.L b) (HL.out b) bit hbit W
 clear ST0 hb1 hrg hS hb hz hB
 go_wp2_with fail
 apply Vp.wp_region_pre 15 (fun l k v W => V7 q b bit (m.L b) z B l k v) (fun l W => S7 M q x m b z w l W) (fun W => W.cell? ⟨M,0,none⟩ = some (.slice (some ⟨q,0,none⟩) x.n x.n))
 case hm => kernel_rfl
 case hd => kernel_rfl
 case hpre => kernel_rfl
 case hB => kernel_rfl
 case hVl => exact fun l l' he i v W h => h.up fun e => by rw [← he 15 (by decide) (by decide)];exact e
 case hS => exact fun l l' W he h => ⟨fun e => h.no (by rw [he 22 (by decide) (by decide)];exact e),fun e => ⟨(h.ye (by rw [he 22 (by decide) (by decide)];exact e)).1,by rw [← he 15 (by decide) (by decide)];exact (h.ye (by rw [he 22 (by decide) (by decide)];exact e)).2⟩⟩
 case hSC => exact fun l W h => h.c0
 case hVb => exact fun l i v W W' h hb => h
 case hSb => exact fun l W W' h hb _ => h.below hb
 case h0 => exact ⟨fun _ => ST1.out.below ⟨rfl,rfl,rfl,Nat.le_refl _,fun _ _ => rfl⟩,fun e => by cases e⟩
 case hwalk =>
  simp only [List.take_succ_cons,List.take_zero]
  intro R hR hne
  have hc0:∀ y:InW (fun W => W.cell? ⟨M,0,none⟩ = some (.slice (some ⟨q,0,none⟩) x.n x.n) ∧ R W),y.W.cell? ⟨M,0,none⟩ = some (.slice (some ⟨q,0,none⟩) x.n x.n):=fun y => y.h.1
  repeat (first | go_big_quiet_skip | (go_big_quiet_want;go_big_quiet_op;go_big_quiet_on))
  exact wpQuiet_nil rfl
 case hst =>
  simp only [List.drop_succ_cons,List.drop_zero]
  refine ⟨?_,?_,?_,?_,?_,?_,?_,?_,trivial⟩
  ·intro l a W hl hu h
   have e1:a.tmps.getD 34 undef = .pointer (some ⟨q,b * 256,none⟩):=((h.vals 14 34 (op_up hu 14 (by kernel_rfl)) rfl).pre (by decide) rfl).trans (by rw [HBB.out];rfl)
   have hs:PbS M q x m w W:=by
    cases e:l 22 with
    | false => exact h.st.no e
    | true => have:=(h.st.ye e).2;rw [hl] at this;cases this
   have hr:=hs.m.im.seg.range b hbn
   rw [Nat.zero_add] at hr
   exact Vm.stepQ h (by kernel_rfl) rfl rfl rfl hl _ (Vl.r_ldmid 32 (.tmp 34) rfl q (b * 256) (bkF m.L b) _ e1 hr Tryz.underlying32 rfl (by rw [bkF_len];exact info_block)) (fun _ _ hv => hv.up fun _ hv => hv.up fun e => by show ((15 == 15) || l 15) = true;rfl) (Vp.W.mk (by decide) rfl) (fun s => s.next (by decide))
  ·intro l a W hl hu h
   have e3:a.tmps.getD 3 undef = .int .i64 (bit:Int):=h.old 3 (by kernel_rfl)
   exact Vm.stepQ h (by kernel_rfl) rfl rfl rfl hl _ (Vl.r_move (.tmp 3) rfl e3) (fun _ _ hv => hv.up fun _ hv => hv.up fun e => by show ((15 == 16) || l 15) = true;rw [e];rfl) (Vp.W.mk (by decide) rfl) (fun s => s.next (by decide))
  ·intro l a W hl hu h
   have u15:=op_up hu 15 (by kernel_rfl)
   have e1:a.tmps.getD 35 undef = bval (m.L b):=(h.vals 15 35 u15 rfl).post (by decide)
   have e2:a.tmps.getD 36 undef = .int .i64 (bit:Int):=(h.vals 16 36 (op_up hu 16 (by kernel_rfl)) rfl).post (by decide)
   refine Vm.step h (by kernel_rfl) rfl rfl rfl hl (Vl.op_call 109 #[bval (m.L b),.int .i64 (bit:Int),.bool true] (r_call3p 109 (.tmp 35) (.tmp 36) (.const (.bool true)) _ _ _ _ rfl e1 e2 rfl (by kernel_rfl)) ?_)
   refine (HTN.out W).mono ?_
   rintro e W' ⟨rfl,hb⟩
   have u15':l 15 = true:=u15
   exact ⟨_,rfl,_,rfl,fun i d _ _ hv => hv.up fun _ hv => hv.up fun e => by show ((15 == 17) || l 15) = true;rw [e];rfl,Vp.W.mk (by decide) ⟨rfl,by show ((15 == 17) || l 15) = true;rw [u15'];rfl⟩,(h.st.below hb).next (by decide)⟩
  ·intro l a W hl hu h
   obtain ⟨e1,u15⟩:a.tmps.getD 37 undef = .tuple #[bval z,.bool B] ∧ l 15 = true:=(h.vals 17 37 (op_up hu 17 (by kernel_rfl)) rfl).post (by decide)
   exact Vm.stepQ h (by kernel_rfl) rfl rfl rfl hl _ (Vl.r_move (.tmp 37) rfl e1) (fun _ _ hv => hv.up fun _ hv => hv.up fun e => by show ((15 == 18) || l 15) = true;rw [e];rfl) (Vp.W.mk (by decide) ⟨rfl,by show ((15 == 18) || l 15) = true;rw [u15];rfl⟩) (fun s => s.next (by decide))
  ·intro l a W hl hu h
   obtain ⟨e1,u15⟩:a.tmps.getD 19 undef = .tuple #[bval z,.bool B] ∧ l 15 = true:=(h.vals 18 19 (op_up hu 18 (by kernel_rfl)) rfl).post (by decide)
   exact Vm.stepQ h (by kernel_rfl) rfl rfl rfl hl _ (Vl.r_extract (.tmp 19) 0 _ rfl e1 rfl) (fun _ _ hv => hv.up fun _ hv => hv.up fun e => by show ((15 == 19) || l 15) = true;rw [e];rfl) (Vp.W.mk (by decide) ⟨rfl,by show ((15 == 19) || l 15) = true;rw [u15];rfl⟩) (fun s => s.next (by decide))
  ·intro l a W hl hu h
   obtain ⟨e1,u15⟩:a.tmps.getD 19 undef = .tuple #[bval z,.bool B] ∧ l 15 = true:=(h.vals 18 19 (op_up hu 18 (by kernel_rfl)) rfl).post (by decide)
   exact Vm.stepQ h (by kernel_rfl) rfl rfl rfl hl _ (Vl.r_extract (.tmp 19) 1 _ rfl e1 rfl) (fun _ _ hv => hv.up fun _ hv => hv.up fun e => by show ((15 == 20) || l 15) = true;rw [e];rfl) (Vp.W.mk (by decide) rfl) (fun s => s.next (by decide))
  ·intro l a W hl hu h
   have e1:a.tmps.getD 23 undef = .slice (some ⟨q,0,none⟩) x.n x.n:=(h.vals 3 23 (op_up hu 3 (by kernel_rfl)) rfl).pre (by decide) rfl
   have e2:a.tmps.getD 26 undef = .int .i64 (b:Int):=((h.vals 6 26 (op_up hu 6 (by kernel_rfl)) rfl).pre (by decide) rfl).trans (by rw [← hbd];rfl)
   exact Vm.stepQ h (by kernel_rfl) rfl rfl rfl hl _ (Vl.r_ixa 29 32 (.tmp 23) (.tmp 26) rfl Tryz.underlying29 256 (by kernel_rfl) q 0 x.n x.n b e1 e2 hbn) (fun _ _ hv => hv.up fun _ hv => hv.up fun e => by show ((15 == 21) || l 15) = true;rw [e];rfl) (Vp.W.mk (by decide) rfl) (fun s => s.next (by decide))
  ·intro l a W hl hu h
   have e1:a.tmps.getD 40 undef = .pointer (some ⟨q,0 + b * 256,none⟩):=(h.vals 21 40 (op_up hu 21 (by kernel_rfl)) rfl).post (by decide)
   rw [Nat.zero_add] at e1
   obtain ⟨e2,u15⟩:a.tmps.getD 38 undef = bval z ∧ l 15 = true:=(h.vals 19 38 (op_up hu 19 (by kernel_rfl)) rfl).post (by decide)
   have hs:=h.st.no hl
   have hth:W.there q (b * 256) (Ks .u8 256 z).toArray.size:=by rw [Ks_size];exact hs.m.im.there hbn
   refine Vm.step h (by kernel_rfl) rfl rfl rfl hl (Vl.op_stmid 32 (.tmp 40) (.tmp 38) rfl q (b * 256) (Ks .u8 256 z).toArray e1 e2 hth (by rw [Ks_size];exact info_block) (Ks_one _ _ _) ?_)
   exact ⟨_,rfl,fun i d _ _ hv => hv.up fun _ hv => hv.up fun e => by show ((15 == 22) || l 15) = true;rw [e];rfl,Vp.W.mk (by decide) rfl,⟨fun e => (by have e:true = false:=e;cases e),fun _ => ⟨hs.put hbn z,by show ((15 == 22) || l 15) = true;rw [u15];rfl⟩⟩⟩
 intro a' w9 h hall
 clear hall
 obtain ⟨hs,_⟩:=h.st.ye rfl
 have HS9:Hid (PbS M q x (m.set x k d bit) w w9):=by
  have e1:=HBB.out
  have e2:=HS.out
  have e3:=HZ.out
  subst e1 e2
  rw [e3] at hs
  exact hs
 have hdf:=h.defers
 obtain ⟨tm,df⟩:=a'
 obtain rfl:df = []:=hdf
 clear h hs
 exact bodyPost_end (results_none rfl _ _ _) rfl ⟨rfl,HS9.out⟩
def MQ (M q:Nat) (j:Nat):Prop:=j = M ∨ j = q
theorem PlM.next {M q:Nat} {x:Im} {m:MS} {W:World} (h:PlM M q x m W) (k:Nat):PlM M q x { m with next:=k } (W.setCell ⟨M,5,none⟩ (.int .i64 (k:Int))):=by
 obtain ⟨f,hf⟩:=h.k
 exact ⟨⟨f,hf.setCell 5 (.int .i64 (k:Int))⟩,h.im.only (Only.setCell W ⟨M,5,none⟩ _) (Ne.symm h.ne)⟩
theorem PlM.full {M q:Nat} {x:Im} {m:MS} {W:World} (h:PlM M q x m W) (b:Bool):PlM M q x m (W.setCell ⟨M,6,none⟩ (.bool b)):=by
 obtain ⟨f,hf⟩:=h.k
 exact ⟨⟨b,hf.setCell 6 (.bool b)⟩,h.im.only (Only.setCell W ⟨M,6,none⟩ _) (Ne.symm h.ne)⟩
theorem thF_im {x:Im} (hx:x.Ok) {b:Nat} (hb:b < x.n):∃ K A B C:Int,thF x.s (x.i / 4) x.j b = tv K A B C ∧ (K == 7) = x.data b ∧ (x.data b = true → A = (MS.grp x b:Nat) ∧ B = (MS.plc x b:Nat) ∧ MS.grp x b < x.g ∧ MS.plc x b < x.s):=by
 obtain ⟨h1,h2,h3,h4,h5,h6,h7,h8,h9,h10,h11⟩:=mayN hx.may
 have hn:=hx.n
 unfold thF Im.data Im.own MS.grp MS.plc
 by_cases c0:b = 0
 ·rw [if_pos c0];exact ⟨_,_,_,_,rfl,by subst c0;simp,fun h => by subst c0;simp at h⟩
 rw [if_neg c0]
 by_cases c1:b = 1
 ·rw [if_pos c1];exact ⟨_,_,_,_,rfl,by subst c1;simp;omega,fun h => by subst c1;simp at h;omega⟩
 rw [if_neg c1]
 by_cases c2:b < 2 + x.j
 ·rw [if_pos c2]
  have:decide (2 + x.j ≤ b) = false:=decide_eq_false (by omega)
  rw [this,Bool.false_and]
  exact ⟨_,_,_,_,rfl,rfl,fun h => by cases h⟩
 rw [if_neg c2,decide_eq_true (show 2 + x.j ≤ b by omega),decide_eq_true hb,Bool.true_and,Bool.true_and]
 have hr:(b - (2 + x.j)) % x.s < x.s:=Nat.mod_lt _ (by omega)
 have hq:(b - (2 + x.j)) / x.s < x.g:=by
  refine (Nat.div_lt_iff_lt_mul (by omega)).2 ?_
  omega
 generalize (b - (2 + x.j)) % x.s = r at *
 generalize (b - (2 + x.j)) / x.s = γ at *
 by_cases d0:r = 0
 ·rw [if_pos d0,decide_eq_false (by omega)];exact ⟨_,_,_,_,rfl,rfl,fun h => by cases h⟩
 rw [if_neg d0]
 by_cases d1:r = 1
 ·rw [if_pos d1,decide_eq_false (by omega)];exact ⟨_,_,_,_,rfl,rfl,fun h => by cases h⟩
 rw [if_neg d1]
 by_cases d2:r < 2 + x.i / 4
 ·rw [if_pos d2,decide_eq_false (by omega)];exact ⟨_,_,_,_,rfl,rfl,fun h => by cases h⟩
 ·rw [if_neg d2,decide_eq_true (by omega)];exact ⟨_,_,_,_,rfl,rfl,fun _ => ⟨rfl,rfl,hq,hr⟩⟩
def nxO (M:Nat) (W:World):Nat:=match W.cell? ⟨M,5,none⟩ with
 | some (.int .i64 n) => n.toNat
 | _ => 0
theorem PlM.nx {M q:Nat} {x:Im} {m:MS} {W:World} (h:PlM M q x m W):nxO M W = m.next:=by unfold nxO;rw [h.c5];exact Int.toNat_natCast _
structure TkS (M q:Nat) (x:Im) (m:MS) (w W:World):Prop where
 p:PlM M q x m W
 gr:GwS (MQ M q) w W
 byt:∀ b,Byt (m.L b)
theorem TkS.below {M q:Nat} {x:Im} {m:MS} {w W W':World} (h:TkS M q x m w W) (hb:Below W.heap.size W W'):TkS M q x m w W':=⟨h.p.below hb,h.gr.trans (.of_below hb),h.byt⟩
theorem mkTake_any (M q:Nat) (x:Im) (hx:x.Ok) (m:MS) (hL:∀ b,Byt (m.L b)) (hle:m.next ≤ x.n) (w:World) (h:PlM M q x m w) :
  Calls Tryz.prog 105 #[.pointer (some ⟨M,0,none⟩)] w fun e w' => e = .returned (.int .i64 (((m.take x).1:Nat):Int)) ∧ PlM M q x (m.take x).2 w' ∧ GwS (MQ M q) w w':=by
 obtain ⟨h1,h2,h3,h4,h5,h6,h7,h8,h9,h10,h11⟩:=mayN hx.may
 have hn9:=hx.n_le
 have ST0:Hid (TkS M q x m w w):=⟨h,.refl _ _,hL⟩
 have HX:=Lib.hid hx
 obtain ⟨r,hr⟩:∃ r,r = m.take x:=⟨_,rfl⟩
 have HR:Hid (MS.takeF x (x.n - m.next) m = r):=by show _ = _;rw [hr];rfl
 rw [← hr]
 clear hx h hL h11 hr
 go_enter Tryz.func105,Tryz.ntmps105
 go_wp2_with fail
 go_loopw [3,4,5,6] (fun _ _ _ _ wr => ∃ (f:Nat) (m':MS),MS.takeF x f m' = r ∧ m'.next + f = x.n ∧ TkS M q x m' w wr) (fun _ _ _ _ wr => x.n - nxO M wr)
 case atStart => exact ⟨x.n - m.next,m,HR.out,by omega,ST0.out⟩
 case round =>
  clear ST0 HR
  obtain ⟨f,m',hf,hn,st⟩:=hrel
  have ST:=Lib.hid st
  have HF:=Lib.hid hf
  have hm9:m'.next ≤ 2048:=by omega
  have HM:Hid (nxO M wr = m'.next):=st.p.nx
  clear st hf
  go_wp2_with fail
  refine wp_region_S (TkS M q x m' w) (by kernel_rfl) (by kernel_rfl) (ST.out.below (Below.refl _ _).drew) ?_
  clear ST
  intro hne
  have hc0:∀ y:InW (TkS M q x m' w),y.W.cell? ⟨M,0,none⟩ = some (.slice (some ⟨q,0,none⟩) x.n x.n):=fun y => y.h.p.c0
  have hc5:∀ y:InW (TkS M q x m' w),y.W.cell? ⟨M,5,none⟩ = some (.int .i64 (m'.next:Int)):=fun y => y.h.p.c5
  repeat (first | go_big_quiet_skip | (go_big_quiet_want;go_big_quiet_op;go_big_quiet_on))
  refine wpQuiet_nil ?_
  intro w2 h2'
  have ST:=Lib.hid h2'.out
  clear h2' hne hc0 hc5
  by_cases hlt:m'.next < x.n
  ·have hlt':(m'.next:Int) < (x.n:Int):=by omega
   have c5:=ST.out.p.c5
   have f5:=ST.out.p.soft 5
   obtain ⟨f,rfl⟩:∃ f',f = f' + 1:=⟨f - 1,by omega⟩
   obtain ⟨K,A,B,C,he,hK,hD⟩:=thF_im HX.out hlt
   have HE:=Lib.hid he
   have HK:=Lib.hid hK
   have HD:=Lib.hid hD
   have ST3:Hid (TkS M q x { m' with next:=m'.next + 1 } w (w2.setCell ⟨M,5,none⟩ (.int .i64 ((m'.next + 1:Nat):Int)))):=⟨ST.out.p.next _,ST.out.gr.trans (.of_only (Only.setCell w2 ⟨M,5,none⟩ _) (.inl rfl)),ST.out.byt⟩
   have hrg:=ST3.out.p.geo
   rw [show ((m'.next + 1:Nat):Int) = (m'.next:Int) + 1 from rfl] at hrg
   obtain ⟨b,hb⟩:∃ b,b = m'.next:=⟨_,rfl⟩
   have HB:=Lib.hid hb
   clear he hK hD hb
   go_wp2_with (first | (refine wp_loadMid rfl 23 (.tmp 31) rfl M 1 (gcells x.g x.s x.i x.j).toList _ rfl hrg Tryz.underlying23 rfl (by kernel_rfl) ?_))
   refine (rWhat5_any x.g x.s x.i x.j m'.next HX.out.may (by rw [← HX.out.n];exact hlt) K A B C HE.out _).mono ?_
   rintro e w3 ⟨rfl,hb3⟩
   have ST4:=Lib.hid (ST3.out.below hb3)
   clear ST3 ST hb3 hrg c5 f5 HE
   cases hd:x.data m'.next with
   | false =>
    have q1:(K == 7) = false:=HK.out.trans hd
    have HF2:Hid (MS.takeF x f { m' with next:=m'.next + 1 } = r):=by
     have:=HF.out
     rw [MS.takeF,if_neg (by rw [hd];decide)] at this
     exact this
    clear hd HK HD HF
    go_wp2_with fail
    go_roundw
    case rel => exact ⟨f,_,HF2.out,by show m'.next + 1 + f = x.n;omega,ST4.out⟩
    case measure => rw [HM.out,ST4.out.p.nx];show x.n - (m'.next + 1) < x.n - m'.next;omega
   | true =>
    have q1:(K == 7) = true:=HK.out.trans hd
    obtain ⟨rfl,rfl,hg,hp⟩:=HD.out hd
    have HF2:Hid ((m'.next,MS.set x { m' with next:=m'.next + 1 } (MS.grp x m'.next) 0 (MS.plc x m'.next)) = r):=by
     have:=HF.out
     rw [MS.takeF,if_pos hd] at this
     exact this
    have hp9:MS.plc x m'.next < 2048:=by omega
    obtain ⟨γ,hγ⟩:∃ γ,γ = MS.grp x m'.next:=⟨_,rfl⟩
    obtain ⟨ρ,hρ⟩:∃ ρ,ρ = MS.plc x m'.next:=⟨_,rfl⟩
    rw [← hγ] at hg HF2 ⊢
    rw [← hρ] at hp hp9 HF2 ⊢
    clear hd HK HD HF hγ hρ
    go_wp2_with fail
    refine (mkSet_any M q x HX.out { m' with next:=m'.next + 1 } ST4.out.byt γ 0 ρ hg (by decide) hp9 _ ST4.out.p).mono ?_
    rintro e w4 ⟨rfl,hs⟩
    have HE:Hid (PlM M q x r.2 w4 ∧ GwS (MQ M q) w w4 ∧ r.1 = m'.next):=by
     rw [← HF2.out]
     exact ⟨hs.m,ST4.out.gr.trans (.of_grown hs.gr (.inr rfl)),rfl⟩
    clear hs ST4
    go_wp2_with fail
    go_ret
    exact ⟨by rw [HE.out.2.2];rfl,HE.out.1,HE.out.2.1⟩
  ·obtain rfl:f = 0:=by omega
   have hlt':¬ (m'.next:Int) < (x.n:Int):=by omega
   obtain ⟨ff,hff⟩:=ST.out.p.k
   have c6:w2.cell? ⟨M,6,none⟩ = some (.bool ff):=hff.cell (i:=6) rfl
   have f6:=ST.out.p.soft 6
   have HE:Hid (PlM M q x r.2 (w2.setCell ⟨M,6,none⟩ (.bool true)) ∧ GwS (MQ M q) w (w2.setCell ⟨M,6,none⟩ (.bool true)) ∧ r.1 = 0):=by
    rw [← HF.out]
    exact ⟨ST.out.p.full true,ST.out.gr.trans (.of_only (Only.setCell w2 ⟨M,6,none⟩ _) (.inl rfl)),rfl⟩
   clear hff ST HF
   go_wp2_with fail
   go_ret
   exact ⟨by rw [HE.out.2.2];rfl,HE.out.1,HE.out.2.1⟩
theorem run_int2c (u v:Int) (W:World):(Instr.buildSlice 37 2 #[(0,.int .i64 u),(1,.int .i64 v)]).run Tryz.prog W = .ok (.slice (some ⟨W.heap.size,0,none⟩) 2 2) (W.alloc (.cells #[.int .i64 u,.int .i64 v] 3)):=by kernel_rfl
theorem run_int3c (u v x:Int) (W:World):(Instr.buildSlice 37 3 #[(0,.int .i64 u),(1,.int .i64 v),(2,.int .i64 x)]).run Tryz.prog W = .ok (.slice (some ⟨W.heap.size,0,none⟩) 3 3) (W.alloc (.cells #[.int .i64 u,.int .i64 v,.int .i64 x] 3)):=by kernel_rfl
def OfP (w:World) (i:Int) (e:Ending) (w':World):Prop :=
 Below w.heap.size w w' ∧ (((i < 0 ∨ 65536 ≤ i) ∧ e = .returned (.tuple #[.int .i64 0,.slice none 0 0,.int .i64 100])) ∨
  ((0 ≤ i ∧ i < 65536) ∧ ∃ a c,e = .returned (.tuple #[.int .i64 ((Im.wayP i.toNat:Nat):Int),.slice a (Im.wayB i.toNat).length c,.int .i64 0]) ∧ RRow w' a 1 (Im.wayB i.toNat).length (nmF (Im.wayB i.toNat)) ∧ ∀ b off,a = some ⟨b,off,none⟩ → w.heap.size ≤ b ∧ b < w'.heap.size))
theorem row_ints (w:World) (cs:Array Value) (l:List Nat) (h:∀ k,k < l.length → cs[k]? = some (.int .i64 ((l.getD k 0:Nat):Int))):RRow (w.alloc (.cells cs 3)) (some ⟨w.heap.size,0,none⟩) 1 l.length (nmF l) :=
 .inr ⟨w.heap.size,0,rfl,fun k hk j v hv => by
  cases j with
  | succ j => cases hv
  | zero =>
   injection hv with hv
   subst hv
   rw [Nat.zero_add,Nat.mul_one,Nat.add_zero]
   exact (At.new w 3 cs).cell (h k hk)⟩
theorem rOf10_any (i:Int) (w:World):Calls Tryz.prog 104 #[.int .i64 i] w fun e w' => OfP w i e w':=by
 have hbb:=run_int2c
 have hbc:=run_int3c
 have hba:=run_int1c
 have hB:∀ (cs:Array Value),Below w.heap.size w (w.alloc (.cells cs 3)):=fun cs => (Below.refl _ _).alloc (Nat.le_refl _) _
 have HB:=Lib.hid hB
 clear hB
 by_cases h0:i < 0
 ·go_enter Tryz.func104,Tryz.ntmps104
  go_wp2_with fail
  refine bodyPost_ret (results_tmp3 rfl _ _ _) rfl ?_
  exact ⟨Below.refl _ _,.inl ⟨.inl h0,rfl⟩⟩
 have q0:decide (i < 0) = false:=decide_eq_false h0
 obtain ⟨n,rfl⟩:∃ n:Nat,i = (n:Int):=⟨i.toNat,by omega⟩
 by_cases h1:65536 ≤ n
 ·have q1:decide ((65536:Int) ≤ (n:Int)) = true:=decide_eq_true (by omega)
  have q1':decide (65536 ≤ n) = true:=decide_eq_true h1
  clear h0
  go_enter Tryz.func104,Tryz.ntmps104
  go_wp2_with fail
  refine bodyPost_ret (results_tmp3 rfl _ _ _) rfl ?_
  exact ⟨Below.refl _ _,.inl ⟨.inr (by omega),rfl⟩⟩
 have q1:decide ((65536:Int) ≤ (n:Int)) = false:=decide_eq_false (by omega)
 have q1':decide (65536 ≤ n) = false:=decide_eq_false h1
 have hn:0 ≤ (n:Int) ∧ (n:Int) < 65536:=by omega
 have HNN:=Lib.hid hn
 have hn9:n < 65536:=by omega
 clear h0 h1 hn
 by_cases h8:n < 8
 ·have q2:decide ((n:Int) < 8) = true:=decide_eq_true (by omega)
  have q2':decide (n < 8) = true:=decide_eq_true h8
  go_enter Tryz.func104,Tryz.ntmps104
  go_wp2_with fail
  refine bodyPost_ret (results_tmp3 rfl _ _ _) rfl ?_
  have e1:Im.wayP (n:Int).toNat = n:=by rw [Int.toNat_natCast];unfold Im.wayP;rw [if_pos h8]
  have e2:Im.wayB (n:Int).toNat = []:=by rw [Int.toNat_natCast];unfold Im.wayB;rw [if_pos h8]
  exact ⟨Below.refl _ _,.inr ⟨HNN.out,none,0,by rw [e1,e2];rfl,.inl (by rw [e2];rfl),fun b off e => by cases e⟩⟩
 have q2:decide ((n:Int) < 8) = false:=decide_eq_false (by omega)
 have q2':decide (n < 8) = false:=decide_eq_false h8
 by_cases h72:n < 72
 ·have q3:decide ((n:Int) < 72) = true:=decide_eq_true (by omega)
  have q3':decide (n < 72) = true:=decide_eq_true h72
  have e1:Im.wayP (n:Int).toNat = 8:=by rw [Int.toNat_natCast];unfold Im.wayP;rw [if_neg h8,if_pos h72]
  have e2:Im.wayB (n:Int).toNat = [n - 8]:=by rw [Int.toNat_natCast];unfold Im.wayB;rw [if_neg h8,if_pos h72]
  have e3:(n:Int) - 8 = ((n - 8:Nat):Int):=by omega
  have HE:=Lib.hid (And.intro e1 (And.intro e2 e3))
  clear h8 h72 e1 e2 e3
  go_enter Tryz.func104,Tryz.ntmps104
  go_wp2_with fail
  refine bodyPost_ret (results_tmp3 rfl _ _ _) rfl ?_
  obtain ⟨e1,e2,e3⟩:=HE.out
  refine ⟨HB.out _,.inr ⟨HNN.out,some ⟨w.heap.size,0,none⟩,1,by rw [e1,e2];rfl,?_,fun b off e => by injection e with e;injection e with e;subst e;exact ⟨Nat.le_refl _,by rw [World.size_alloc];omega⟩⟩⟩
  rw [e2]
  exact row_ints w _ [n - 8] fun k hk => by
   obtain rfl:k = 0:=by simp at hk;exact hk
   rw [e3];rfl
 have q3:decide ((n:Int) < 72) = false:=decide_eq_false (by omega)
 have q3':decide (n < 72) = false:=decide_eq_false h72
 by_cases h41:n < 4168
 ·have q4:decide ((n:Int) < 4168) = true:=decide_eq_true (by omega)
  have q4':decide (n < 4168) = true:=decide_eq_true h41
  have e1:Im.wayP (n:Int).toNat = 9:=by rw [Int.toNat_natCast];unfold Im.wayP;rw [if_neg h8,if_neg h72,if_pos h41]
  have e2:Im.wayB (n:Int).toNat = [(n - 72) / 64,(n - 72) % 64]:=by rw [Int.toNat_natCast];unfold Im.wayB;rw [if_neg h8,if_neg h72,if_pos h41]
  obtain ⟨A,hA⟩:∃ A:Nat,A = (n - 72) / 64:=⟨_,rfl⟩
  obtain ⟨B,hB⟩:∃ B:Nat,B = (n - 72) % 64:=⟨_,rfl⟩
  have f1:((n:Int) - 72).tdiv 64 = (A:Int):=by rw [Int.tdiv_eq_ediv_of_nonneg (by omega)];omega
  have f2:((n:Int) - 72).tmod 64 = (B:Int):=by rw [Int.tmod_eq_emod_of_nonneg (by omega)];omega
  rw [← hA,← hB] at e2
  have hn72:(72:Int) ≤ (n:Int):=by omega
  have hA9:A ≤ 1024:=by omega
  have HE:=Lib.hid (And.intro e1 e2)
  clear h8 h72 e1 e2 hA hB h41
  go_enter Tryz.func104,Tryz.ntmps104
  go_wp2_with fail
  refine bodyPost_ret (results_tmp3 rfl _ _ _) rfl ?_
  obtain ⟨e1,e2⟩:=HE.out
  refine ⟨HB.out _,.inr ⟨HNN.out,some ⟨w.heap.size,0,none⟩,2,by rw [e1,e2];rfl,?_,fun b off e => by injection e with e;injection e with e;subst e;exact ⟨Nat.le_refl _,by rw [World.size_alloc];omega⟩⟩⟩
  rw [e2]
  exact row_ints w _ [A,B] fun k hk => by
   have:k = 0 ∨ k = 1:=by simp at hk;omega
   rcases this with rfl | rfl <;> rfl
 have q4:decide ((n:Int) < 4168) = false:=decide_eq_false (by omega)
 have q4':decide (n < 4168) = false:=decide_eq_false h41
 have e1:Im.wayP (n:Int).toNat = 10:=by rw [Int.toNat_natCast];unfold Im.wayP;rw [if_neg h8,if_neg h72,if_neg h41]
 have e2:Im.wayB (n:Int).toNat = [(n - 4168) / 4096,(n - 4168) % 4096 / 64,(n - 4168) % 64]:=by rw [Int.toNat_natCast];unfold Im.wayB;rw [if_neg h8,if_neg h72,if_neg h41]
 obtain ⟨A,hA⟩:∃ A:Nat,A = (n - 4168) / 4096:=⟨_,rfl⟩
 obtain ⟨B,hB⟩:∃ B:Nat,B = (n - 4168) % 4096 / 64:=⟨_,rfl⟩
 obtain ⟨C,hC⟩:∃ C:Nat,C = (n - 4168) % 64:=⟨_,rfl⟩
 obtain ⟨D,hD⟩:∃ D:Nat,D = (n - 4168) / 64:=⟨_,rfl⟩
 have f1:((n:Int) - 4168).tdiv 4096 = (A:Int):=by rw [Int.tdiv_eq_ediv_of_nonneg (by omega)];omega
 have f2:((n:Int) - 4168).tdiv 64 = (D:Int):=by rw [Int.tdiv_eq_ediv_of_nonneg (by omega)];omega
 have f3:(D:Int).tmod 64 = (B:Int):=by rw [Int.tmod_eq_emod_of_nonneg (by omega)];omega
 have f4:((n:Int) - 4168).tmod 64 = (C:Int):=by rw [Int.tmod_eq_emod_of_nonneg (by omega)];omega
 rw [← hA,← hB,← hC] at e2
 have hn72:(4168:Int) ≤ (n:Int):=by omega
 have hA9:A ≤ 1024:=by omega
 have hD9:D ≤ 1024:=by omega
 have HE:=Lib.hid (And.intro e1 e2)
 clear h8 h72 e1 e2 hA hB hC hD h41
 go_enter Tryz.func104,Tryz.ntmps104
 go_wp2_with fail
 refine bodyPost_ret (results_tmp3 rfl _ _ _) rfl ?_
 obtain ⟨e1,e2⟩:=HE.out
 refine ⟨HB.out _,.inr ⟨HNN.out,some ⟨w.heap.size,0,none⟩,3,by rw [e1,e2];rfl,?_,fun b off e => by injection e with e;injection e with e;subst e;exact ⟨Nat.le_refl _,by rw [World.size_alloc];omega⟩⟩⟩
 rw [e2]
 exact row_ints w _ [A,B,C] fun k hk => by
  have:k = 0 ∨ k = 1 ∨ k = 2:=by simp at hk;omega
  rcases this with rfl | rfl | rfl <;> rfl
end Go.Proofs.YtphamecphmbipaaGreatDoor
