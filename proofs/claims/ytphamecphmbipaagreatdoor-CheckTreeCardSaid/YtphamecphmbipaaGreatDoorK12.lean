/- Texts of this claim, merged. -/
import Derived.Test.YtphamecphmbipaaGreatDoorK10
import Derived.Laws.BytesArg
import Derived.WalkMore
set_option maxRecDepth 100000
set_option maxHeartbeats 16000000

namespace Go.Proofs.YtphamecphmbipaaGreatDoor
open Go.RowKit
set_option linter.unusedVariables false
def sl (z:Nat → Int) (i:Nat):Nat → Int:=fun j => z (32 * i + j)
def sIno (y:Nat → Int):Int:=g32 y 0
def sLen (y:Nat → Int):Nat:=(y 4).toNat
def sNm (y:Nat → Int):ByteArray:=strOfNums ((List.range (sLen y)).map fun j => y (5 + j))
def sOk (y:Nat → Int):Bool:=if sIno y = 0 then allZ y 32 else decide (sLen y ≤ 27) && (allZ (fun j => y (5 + sLen y + j)) (27 - sLen y) && mayB (sNm y))
def slI (y:Nat → Int):Int:=if sOk y then sIno y else 0
def slN (y:Nat → Int):ByteArray:=if sOk y && sIno y != 0 then sNm y else ByteArray.empty
abbrev sv (i:Int) (s:ByteArray):Value:=.agg #[.int .u32 i,.string s]
theorem zero_slot (W:World):(zeroValue 90).run Tryz.prog W = .ok (sv 0 ByteArray.empty) W:=by kernel_rfl
theorem info_slot (i:Int) (s:ByteArray):(Tryz.prog.info? 90).map (·.size) = some (#[Value.int .u32 i,.string s]:Array Value).size:=by kernel_rfl
theorem one_slot (i:Int) (s:ByteArray):(#[Value.int .u32 i,.string s]:Array Value).all (·.oneCell') = true:=by simp [Value.oneCell']
theorem results_slot {fn:Func} {p u:Tmp} (h:fn.results = #[.cell p 90,.tmp u]) (tmps:Array Value) (w:World) (g:Nat) (i:Int) (s:ByteArray)
  (hp:tmps.getD p undef = .pointer (some ⟨g,0,none⟩)) (hg:At w g 90 #[.int .u32 i,.string s]):(results fn tmps).run Tryz.prog w = .ok (.tuple #[sv i s,tmps.getD u undef]) w :=
 results_row_tmp h tmps w g 90 _ (0,0) _ hp hg Tryz.underlying90 rfl (info_slot _ _)
theorem cut_any (g i:Nat) (hi:i < 8) (w:World):Calls Tryz.prog 139 #[.pointer (some ⟨g,0,none⟩),.int .i64 (i:Int)] w fun e w' => e = .returned (.slice (some ⟨g,32 * i,none⟩) 32 32) ∧ w = w':=by
 have hsl:∀ W,(Instr.sliceAt 32 (.pointer (some ⟨g,0,none⟩)) (some (.int .i64 (32 * (i:Int)))) (some (.int .i64 (32 * ((i:Int) + 1)))) (some (.int .i64 (32 * ((i:Int) + 1))))).run Tryz.prog W = .ok (.slice (some ⟨g,32 * i,none⟩) 32 32) W:=fun W => by
  have hal:Tryz.prog.arrayLen 32 = 256:=by kernel_rfl
  have hsz:∀ W,(Go.sizeOf (Tryz.prog.elem 32)).run Tryz.prog W = .ok 1 W:=fun W => by kernel_rfl
  rw [run_sliceAt_array_lhm W 32 _ (by kernel_rfl) .i64 .i64 .i64 _ _ _ (by omega) (by omega) (by omega) (by rw [hal];omega),hsz]
  simp only [Result.andThen,slicedAt,Nat.mul_one]
  rw [show (32 * (i:Int)).toNat = 32 * i by omega,show (32 * ((i:Int) + 1)).toNat = 32 * i + 32 by omega,if_neg (by omega),addr_add]
  simp only [Nat.zero_add,show 32 * i + 32 - 32 * i = 32 by omega]
 go_enter Tryz.func139,Tryz.ntmps139
 go_wp2_with fail
 go_ret
 exact ⟨rfl,rfl⟩
theorem slot_any (g i:Nat) (hi:i < 8) {T:TypeId} (z:Nat → Int) (hz:Byt z) (w:World) (hB:Blk w g T 256 z) :
  Calls Tryz.prog 138 #[.slice (some ⟨g,32 * i,none⟩) 32 32] w fun e w' => e = .returned (.tuple #[sv (slI (sl z i)) (slN (sl z i)),.bool (sOk (sl z i))]) ∧ Below w.heap.size w w':=by
 have hal:=zero_slot
 have hB0:Hid (Blk (w.alloc (.cells #[.int .u32 0,.string ByteArray.empty] 90)) g T 256 z):=hB.alloc _
 have hA0:Hid (At (w.alloc (.cells #[.int .u32 0,.string ByteArray.empty] 90)) w.heap.size 90 #[.int .u32 0,.string ByteArray.empty]):=At.new _ _ _
 have hL0:Hid (Below w.heap.size w (w.alloc (.cells #[.int .u32 0,.string ByteArray.empty] 90))):=(Below.refl _ _).alloc (Nat.le_refl _) _
 have hglt:=hB.lt
 clear hB
 generalize hy:sl z i = y
 have hseg:Hid (Seg (w.alloc (.cells #[.int .u32 0,.string ByteArray.empty] 90)) g (32 * i) 32 y):=by
  have:=hB0.out.seg.sub (32 * i) 32 (by omega)
  rw [Nat.zero_add] at this
  rw [← hy];exact this
 have hyb:Byt y:=by rw [← hy];exact fun j => hz _
 clear hy hB0
 go_enter Tryz.func138,Tryz.ntmps138
 go_wp2_with fail
 have hget:=get32_yes g (32 * i) 32 32 0 y _ (by decide) (by decide) (by decide) hseg.out hyb
 refine (hget.mono (R':=fun e w' => e = .returned (.tuple #[.int .u32 (sIno y),.bool true]) ∧ Seg w' g (32 * i) 32 y ∧ At w' w.heap.size 90 #[.int .u32 0,.string ByteArray.empty] ∧ Below w.heap.size w w') (fun e w' h => ⟨h.1,h.2 ▸ hseg.out,h.2 ▸ hA0.out,h.2 ▸ hL0.out⟩)).mono ?_
 rintro e w1 ⟨rfl,hs,hA,hL⟩
 clear hseg hA0 hL0 hget hal
 have hI:=g32_bd hyb 0
 by_cases h0:sIno y = 0
 ·have HO:Hid (sOk y = allZ y 32):=by show _ = _;unfold sOk;rw [if_pos h0]
  have HI:Hid (sIno y = 0):=h0
  rw [h0]
  clear h0
  go_wp2_with fail
  refine (zero_any _ 32 32 y _ (by decide) (.inr ⟨_,_,rfl,hs⟩)).mono ?_
  rintro e w2 ⟨rfl,rfl⟩
  go_wp2_with (first | (refine wp_storeAt rfl 90 _ _ rfl _ _ _ rfl rfl hA (info_slot _ _) rfl (one_slot _ _) ?_))
  intro w2 hA2 ho2
  go_wp2_with fail
  exact bodyPost_ret (results_slot rfl _ _ w.heap.size _ _ rfl hA2) rfl ⟨by rw [slI,slN,HO.out,HI.out];cases allZ y 32 <;> rfl,hL.trans (ho2.below (Nat.le_refl _))⟩
 have hlen:y 4 = (sLen y:Int):=by have:=hyb 4;unfold sLen;omega
 have hlb:sLen y < 256:=by have:=hyb 4;unfold sLen;omega
 have HO:Hid (sOk y = (decide (sLen y ≤ 27) && (allZ (fun j => y (5 + sLen y + j)) (27 - sLen y) && mayB (sNm y)))):=by show _ = _;unfold sOk;rw [if_neg h0]
 have HI:Hid (sIno y ≠ 0):=h0
 have q0:(sIno y == 0) = false:=by simpa using h0
 have c4:w1.cell? ⟨g,32 * i + 4,none⟩ = some (.int .u8 (sLen y:Int)):=by rw [← hlen];exact hs 4 (by omega)
 clear h0 hlen
 have HNM:Hid (sNm y = strOfNums ((List.range (sLen y)).map fun j => y (5 + j))):=rfl
 generalize hn:sLen y = n at *
 by_cases h27:n ≤ 27
 rotate_left
 ·have HN:Hid (sOk y = false):=by show _ = _;rw [HO.out,decide_eq_false h27];rfl
  have d1:(32:Int) < 5 + (n:Int):=by omega
  go_wp2_with (first | (refine wp_storeAt rfl 90 _ _ rfl _ _ _ rfl rfl hA (info_slot _ _) rfl (one_slot _ _) ?_))
  intro w2 hA2 ho2
  go_wp2_with fail
  exact bodyPost_ret (results_slot rfl _ _ w.heap.size _ _ rfl hA2) rfl ⟨by rw [slI,slN,HN.out];rfl,hL.trans (ho2.below (Nat.le_refl _))⟩
 have d1:¬ (32:Int) < 5 + (n:Int):=by omega
 have hrow:Row w1 (some ⟨g,32 * i,none⟩) 32 y:=.inr ⟨_,_,rfl,hs⟩
 have hsl:=fun W => run_sl_low (some ⟨g,32 * i,none⟩) 32 32 (5 + n) (5 + (n:Int)) (by omega) (by omega) W
 have hrs:Hid (Row w1 (slAt (some ⟨g,32 * i,none⟩) (5 + n) 32) (32 - (5 + n)) (fun j => y (5 + n + j))):=hrow.slice (by omega) (by omega)
 clear hrow
 go_wp2_with fail
 refine (zero_any _ _ _ _ _ (by omega) (by exact hrs.out)).mono ?_
 rintro e w2 ⟨rfl,rfl⟩
 clear hsl hrs
 rw [show 32 - (5 + n) = 27 - n by omega]
 cases hzz:allZ (fun j => y (5 + n + j)) (27 - n) with
 | false =>
  have HN:Hid (sOk y = false):=by show _ = _;rw [HO.out,hzz];simp
  clear hzz
  go_wp2_with (first | (refine wp_storeAt rfl 90 _ _ rfl _ _ _ rfl rfl hA (info_slot _ _) rfl (one_slot _ _) ?_))
  intro w2 hA2 ho2
  go_wp2_with fail
  exact bodyPost_ret (results_slot rfl _ _ w.heap.size _ _ rfl hA2) rfl ⟨by rw [slI,slN,HN.out];rfl,hL.trans (ho2.below (Nat.le_refl _))⟩
 | true =>
 have HO2:Hid (sOk y = mayB (sNm y)):=by show _ = _;rw [HO.out,hzz,decide_eq_true h27];rfl
 clear hzz HO
 have hsl:∀ W,(Instr.slice 119 (.slice (some ⟨g,32 * i,none⟩) 32 32) (some (.int .i64 5)) (some (.int .i64 (5 + (n:Int)))) none).run Tryz.prog W = .ok (.slice (some ⟨g,32 * i + 5,none⟩) n 27) W:=fun W => by
  have hsz:∀ W,(Go.sizeOf 5).run Tryz.prog W = .ok 1 W:=fun W => by kernel_rfl
  rw [run_slice_lh W 119 _ 32 32 (by kernel_rfl) .i64 .i64 5 (5 + (n:Int)) (by omega) (by omega) (by omega),show Tryz.prog.elem 119 = 5 from by kernel_rfl,hsz]
  simp only [Result.andThen,sliced,Nat.mul_one]
  rw [show (5 + (n:Int)).toNat = 5 + n by omega]
  simp [addr_add]
 have hcv:∀ dst,Tryz.prog.underlying dst = some .string → (convert 119 dst (.slice (some ⟨g,32 * i + 5,none⟩) n 27)).run Tryz.prog w1 = .ok (.string (sNm y)) w1:=by
  rw [HNM.out]
  exact run_convert_bytes_arg w1 119 5 Tryz.underlying119 Tryz.underlying5 g (32 * i + 5) n 27 _ (by simp) (fun j hj => by
   have:=hs (5 + j) (by omega)
   rw [Nat.add_assoc,this]
   simp [List.getD,hj])
 have hcv1:=hcv 9 Tryz.underlying9
 have hnsz:(sNm y).size = n:=by rw [HNM.out,strOfNums_size];simp
 generalize hsn:sNm y = s at *
 have HSN:Hid (sNm y = s):=hsn
 clear hcv hsn
 go_wp2_with fail
 refine (mayName_any s (by omega) _).mono ?_
 rintro e w2 ⟨rfl,rfl⟩
 clear hsl hcv1
 cases hm:mayB s with
 | false =>
  have HN:Hid (sOk y = false):=by show _ = _;rw [HO2.out,hm]
  clear hm
  go_wp2_with (first | (refine wp_storeAt rfl 90 _ _ rfl _ _ _ rfl rfl hA (info_slot _ _) rfl (one_slot _ _) ?_))
  intro w2 hA2 ho2
  go_wp2_with fail
  exact bodyPost_ret (results_slot rfl _ _ w.heap.size _ _ rfl hA2) rfl ⟨by rw [slI,slN,HN.out];rfl,hL.trans (ho2.below (Nat.le_refl _))⟩
 | true =>
 have HY:Hid (sOk y = true):=by show _ = _;rw [HO2.out,hm]
 have HQ:=Lib.hid q0
 clear hm
 go_wp2_with (first | (refine wp_storeAt rfl 90 _ _ rfl _ _ _ rfl rfl hA (info_slot _ _) rfl (one_slot _ _) ?_))
 intro w2 hA2 ho2
 go_wp2_with fail
 exact bodyPost_ret (results_slot rfl _ _ w.heap.size _ _ rfl hA2) rfl ⟨by rw [slI,slN,HY.out,bne,HQ.out,HSN.out];rfl,hL.trans (ho2.below (Nat.le_refl _))⟩
def SlSeg (w:World) (b off n:Nat) (I:Nat → Int) (N:Nat → ByteArray):Prop:=∀ i,i < n → w.cell? ⟨b,off + i * 2,none⟩ = some (.int .u32 (I i)) ∧ w.cell? ⟨b,off + i * 2 + 1,none⟩ = some (.string (N i))
def SlRow (w:World) (a:Option Addr) (n:Nat) (I:Nat → Int) (N:Nat → ByteArray):Prop:=n = 0 ∨ ∃ b off,a = some ⟨b,off,none⟩ ∧ SlSeg w b off n I N
theorem SlSeg.below {w w':World} {b off n:Nat} {I:Nat → Int} {N:Nat → ByteArray} (h:SlSeg w b off n I N) {B:Nat} (hb:Below B w w') (hB:b < B):SlSeg w' b off n I N :=
 fun i hi => ⟨(hb.cell (p:=⟨b,off + i * 2,none⟩) hB).trans (h i hi).1,(hb.cell (p:=⟨b,off + i * 2 + 1,none⟩) hB).trans (h i hi).2⟩
theorem SlSeg.lt {w:World} {b off n:Nat} {I:Nat → Int} {N:Nat → ByteArray} (h:SlSeg w b off n I N) (hn:0 < n):b < w.heap.size:=World.block_lt_of_cell? w _ (h 0 hn).1
theorem SlRow.below {w w':World} {a:Option Addr} {n:Nat} {I:Nat → Int} {N:Nat → ByteArray} (h:SlRow w a n I N) (hb:Below w.heap.size w w'):SlRow w' a n I N:=by
 rcases h with h | ⟨b,off,rfl,h⟩
 ·exact .inl h
 ·by_cases h0:n = 0
  ·exact .inl h0
  ·exact .inr ⟨b,off,rfl,h.below hb (h.lt (by omega))⟩
theorem SlSeg.range {w:World} {b off n:Nat} {I:Nat → Int} {N:Nat → ByteArray} (h:SlSeg w b off n I N) (i:Nat) (hi:i < n):w.rangeAt b (off + i * 2) [.int .u32 (I i),.string (N i)]:=by
 intro j v hj
 rcases j with _ | _ | j
 ·cases hj;exact (h i hi).1
 ·cases hj;exact (h i hi).2
 ·cases hj
def hitB (I:Nat → Int) (N:Nat → ByteArray) (s:ByteArray) (i:Nat):Bool:=I i != 0 && (N i).data.toList == s.data.toList
def firstB (p:Nat → Bool):Nat → Int
 | 0 => -1
 | n + 1 => if firstB p n = -1 then (if p n then (n:Int) else -1) else firstB p n
theorem firstB_none {p:Nat → Bool} {n:Nat} (h:∀ i,i < n → p i = false):firstB p n = -1:=by
 induction n with
 | zero => rfl
 | succ n ih => unfold firstB;rw [ih fun i hi => h i (by omega),h n (by omega)];rfl
theorem firstB_hit {p:Nat → Bool} {n k:Nat} (hk:k < n) (h:∀ i,i < k → p i = false) (hp:p k = true):firstB p n = (k:Int):=by
 induction n with
 | zero => omega
 | succ n ih =>
  unfold firstB
  by_cases hkn:k < n
  ·rw [ih hkn,if_neg (by omega)]
  ·obtain rfl:k = n:=by omega
   rw [firstB_none h,hp];rfl
theorem firstB_cases (p:Nat → Bool) (n:Nat):(firstB p n = -1 ∧ ∀ i,i < n → p i = false) ∨ ∃ k,k < n ∧ firstB p n = (k:Int) ∧ p k = true ∧ ∀ i,i < k → p i = false:=by
 induction n with
 | zero => exact .inl ⟨rfl,fun i hi => by omega⟩
 | succ n ih =>
  rcases ih with ⟨h1,h2⟩ | ⟨k,hk,h1,h2,h3⟩
  ·cases hp:p n with
   | false => exact .inl ⟨by unfold firstB;rw [h1,hp];rfl,fun i hi => by
     by_cases e:i = n
     ·rw [e];exact hp
     ·exact h2 i (by omega)⟩
   | true => exact .inr ⟨n,by omega,by unfold firstB;rw [h1,hp];rfl,hp,h2⟩
  ·exact .inr ⟨k,by omega,by unfold firstB;rw [h1,if_neg (by omega)],h2,h3⟩
theorem named_any (a:Option Addr) (n cap:Nat) (I:Nat → Int) (N:Nat → ByteArray) (s:ByteArray) (hn:(n:Int) ≤ 9223372036854775807) (w:World) (hs:SlRow w a n I N) :
  Calls Tryz.prog 140 #[.slice a n cap,.string s] w fun e w' => e = .returned (.int .i64 (firstB (hitB I N s) n)) ∧ Below w.heap.size w w':=by
 have HS:=Lib.hid hs
 clear hs
 go_enter Tryz.func140,Tryz.ntmps140
 go_wp2_with fail
 go_step3
 go_wp2_with fail
 go_step3
 go_wp2_with fail
 have hal:=zero_slot
 go_loopw [5,10] (fun v u wr => ∃ k:Nat,k ≤ n ∧ v = .int .i64 (-1) ∧ u = .int .i64 (k:Int) ∧ Hid (∀ i,i < k → hitB I N s i = false) ∧ Below w.heap.size w wr) (fun _ u _ => n - (intOf u).toNat)
 case atStart => exact ⟨0,by omega,rfl,rfl,fun i hi => by omega,Below.refl _ _⟩
 case round =>
  obtain ⟨k,hk,rfl,rfl,HNO,hb⟩:=hrel
  by_cases hlt:k < n
  ·obtain ⟨b,off,rfl,hseg⟩:∃ b off,a = some ⟨b,off,none⟩ ∧ SlSeg w b off n I N:=by
    rcases HS.out with h | h
    ·omega
    ·exact h
   have hr:=(hseg.below hb (hseg.lt (by omega))).range k hlt
   have hA0:=At.new wr 90 #[.int .u32 0,.string ByteArray.empty]
   go_wp2_with (first | (refine wpList_load_mid rfl 90 _ rfl _ _ rfl _ _ hr Tryz.underlying90 rfl (by kernel_rfl) ?_) | (refine wp_storeAt rfl 90 _ _ rfl _ #[.int .u32 (I k),.string (N k)] _ rfl rfl hA0 (info_slot _ _) rfl (one_slot _ _) ?_))
   intro w2 hA2 ho2
   have hb2:Below w.heap.size w w2:=(hb.alloc hb.size _).trans (ho2.below hb.size)
   have c0:=hA2.cell (i:=0) rfl
   have c1:=hA2.cell (i:=1) rfl
   clear hr hA0 hb ho2
   have HH:Hid (hitB I N s k = (I k != 0 && (N k).toList == s.toList)):=by show _ = _;unfold hitB;rw [ByteArray.toList_eq,ByteArray.toList_eq]
   have c0':w2.cell? ⟨wr.heap.size,0,none⟩ = some (.int .u32 (I k)):=c0
   have c1':w2.cell? ⟨wr.heap.size,1,none⟩ = some (.string (N k)):=c1
   clear c0 c1
   have hnx:Hid (hitB I N s k = false → ∀ i,i < k + 1 → hitB I N s i = false):=fun h i hi => by
    by_cases e:i = k
    ·rw [e];exact h
    ·exact HNO.out i (by omega)
   cases h1:(I k != 0) with
   | false =>
    have HN1:Hid (∀ i,i < k + 1 → hitB I N s i = false):=hnx.out (by rw [HH.out,h1];rfl)
    clear hnx HH
    go_wp2_with fail
    go_roundw
    case rel => first | exact ⟨k + 1,by omega,rfl,by go_num,HN1,hb2⟩ | ((repeat apply Exists.intro);exact ⟨⟨k + 1,by omega,rfl,by go_num,HN1,hb2⟩,rfl⟩)
    case measure => simp [intOf];omega
   | true =>
   cases h2:((N k).toList == s.toList) with
   | false =>
    have HN1:Hid (∀ i,i < k + 1 → hitB I N s i = false):=hnx.out (by rw [HH.out,h1,h2];rfl)
    clear hnx HH
    go_wp2_with fail
    go_roundw
    case rel => first | exact ⟨k + 1,by omega,rfl,by go_num,HN1,hb2⟩ | ((repeat apply Exists.intro);exact ⟨⟨k + 1,by omega,rfl,by go_num,HN1,hb2⟩,rfl⟩)
    case measure => simp [intOf];omega
   | true =>
    have HF:Hid (firstB (hitB I N s) n = (k:Int)):=firstB_hit hlt HNO.out (by rw [HH.out,h1,h2];rfl)
    clear hnx HH
    go_wp2_with fail
    try rw [Exit.noGoto_ret]
    go_ret
    exact ⟨by rw [HF.out];rfl,hb2⟩
  ·obtain rfl:k = n:=by omega
   have HF:Hid (firstB (hitB I N s) k = -1):=firstB_none HNO.out
   go_wp2_with fail
   try rw [Exit.noGoto_ret]
   go_ret
   exact ⟨by rw [HF.out];rfl,hb⟩
def Sc (I:Nat → Int) (N:Nat → ByteArray):Nat → List Value
 | 0 => []
 | k + 1 => Sc I N k ++ [.int .u32 (I k),.string (N k)]
theorem Sc_length (I:Nat → Int) (N:Nat → ByteArray) (k:Nat):(Sc I N k).length = k * 2:=by
 induction k with
 | zero => rfl
 | succ k ih => simp [Sc,ih];omega
theorem Sc_get (I:Nat → Int) (N:Nat → ByteArray) (k i:Nat) (hi:i < k):(Sc I N k)[i * 2]? = some (.int .u32 (I i)) ∧ (Sc I N k)[i * 2 + 1]? = some (.string (N i)):=by
 induction k with
 | zero => omega
 | succ k ih =>
  unfold Sc
  by_cases h:i < k
  ·obtain ⟨h1,h2⟩:=ih h
   rw [List.getElem?_append_left (by rw [Sc_length];omega),List.getElem?_append_left (by rw [Sc_length];omega)]
   exact ⟨h1,h2⟩
  ·obtain rfl:i = k:=by omega
   rw [List.getElem?_append_right (by rw [Sc_length];omega),List.getElem?_append_right (by rw [Sc_length];omega),Sc_length]
   simp
theorem Sc_congr {I J:Nat → Int} {N M:Nat → ByteArray} {k:Nat} (h:∀ i,i < k → I i = J i ∧ N i = M i):Sc I N k = Sc J M k:=by
 induction k with
 | zero => rfl
 | succ k ih => unfold Sc;rw [ih fun i hi => h i (by omega),(h k (by omega)).1,(h k (by omega)).2]
theorem Sc_one (I:Nat → Int) (N:Nat → ByteArray) (k:Nat):∀ v ∈ Sc I N k,v.oneCell' = true:=by
 induction k with
 | zero => intro v hv;cases hv
 | succ k ih =>
  intro v hv
  unfold Sc at hv
  rcases List.mem_append.1 hv with h | h
  ·exact ih v h
  ·simp only [List.mem_cons,List.not_mem_nil,or_false] at h
   rcases h with rfl | rfl <;> rfl
def noI:Nat → Int:=fun _ => 0
def noN:Nat → ByteArray:=fun _ => ByteArray.empty
def dI (z:Nat → Int):Nat → Int:=fun i => slI (sl z i)
def dM (z:Nat → Int):Nat → ByteArray:=fun i => slN (sl z i)
def rdB (z:Nat → Int):Nat → Bool
 | 0 => true
 | k + 1 => rdB z k && (sOk (sl z k) && (dI z k == 0 || firstB (hitB (dI z) (dM z) (dM z k)) k == -1))
def dirB (z:Nat → Int):Bool:=rdB z 8
theorem rdB_succ (z:Nat → Int) (k:Nat):rdB z (k + 1) = (rdB z k && (sOk (sl z k) && (dI z k == 0 || firstB (hitB (dI z) (dM z) (dM z k)) k == -1))):=rfl
theorem rdB_no {z:Nat → Int} {k n:Nat} (hk:k < n) (h:rdB z (k + 1) = false):rdB z n = false:=by
 induction n with
 | zero => omega
 | succ n ih =>
  by_cases e:k = n
  ·rw [← e];exact h
  ·rw [rdB_succ,ih (by omega)];rfl
def sdI (z:Nat → Int):Nat → Int:=fun i => if dirB z then dI z i else 0
def sdN (z:Nat → Int):Nat → ByteArray:=fun i => if dirB z then dM z i else ByteArray.empty
def upI (z:Nat → Int) (k:Nat):Nat → Int:=fun i => if i < k then dI z i else 0
def upN (z:Nat → Int) (k:Nat):Nat → ByteArray:=fun i => if i < k then dM z i else ByteArray.empty
theorem zero_slots (W:World):(zeroValue 172).run Tryz.prog W = .ok (.agg (Sc noI noN 8).toArray) W:=by kernel_rfl
theorem info_slots (I:Nat → Int) (N:Nat → ByteArray):(Tryz.prog.info? 172).map (·.size) = some (Sc I N 8).toArray.size:=by
 rw [show (Sc I N 8).toArray.size = 16 by simp [Sc_length]];kernel_rfl
theorem one_slots (I:Nat → Int) (N:Nat → ByteArray):(Sc I N 8).toArray.all (·.oneCell') = true:=all_oneCell_toArray (Sc_one I N 8)
theorem At.slots {w:World} {g:Nat} {T:TypeId} {I:Nat → Int} {N:Nat → ByteArray} {n:Nat} (h:At w g T (Sc I N n).toArray):SlSeg w g 0 n I N:=fun i hi => by
 obtain ⟨h1,h2⟩:=Sc_get I N n i hi
 rw [Nat.zero_add]
 exact ⟨cell_of_heap h (by simpa using h1),cell_of_heap h (by simpa using h2)⟩
theorem At.of_cells {w:World} {g:Nat} {T:TypeId} {c:Array Value} {l:List Value} (h:w.heap[g]? = some (.cells c T (0,0))) (hs:c.size = l.length) (hc:∀ i v,l[i]? = some v → w.cell? ⟨g,i,none⟩ = some v):At w g T l.toArray:=by
 have:c = l.toArray:=by
  apply Array.ext_getElem?
  intro i
  by_cases hi:i < c.size
  ·have h1:=cell_of_heap h (Array.getElem?_eq_getElem hi)
   have hil:i < l.length:=by omega
   have h2:=hc i l[i] (List.getElem?_eq_getElem hil)
   rw [h1] at h2
   rw [Array.getElem?_eq_getElem hi,h2]
   simp [hil]
  ·rw [Array.getElem?_eq_none (by omega)]
   symm;simp;omega
 rw [this] at h;exact h
theorem At.setSlot {w:World} {g:Nat} {T:TypeId} {I J:Nat → Int} {N M:Nat → ByteArray} {n:Nat} (h:At w g T (Sc I N n).toArray) (i:Nat) (hi:i < n) (hs:∀ j,j < n → j ≠ i → I j = J j ∧ N j = M j) :
  At (w.setCells g (i * 2) [.int .u32 (J i),.string (M i)]) g T (Sc J M n).toArray ∧ Only g w (w.setCells g (i * 2) [.int .u32 (J i),.string (M i)]):=by
 have ho:Only g w (w.setCells g (i * 2) [.int .u32 (J i),.string (M i)]):=(Only.setCell w ⟨g,i * 2,none⟩ _).trans (Only.setCell _ ⟨g,i * 2 + 1,none⟩ _)
 refine ⟨?_,ho⟩
 obtain ⟨c,hcs,hc⟩:=ho.shape _ _ _ h
 refine At.of_cells hc (by rw [hcs];simp [Sc_length]) fun j v hj => ?_
 have hjl:j < n * 2:=by have:=(List.getElem?_eq_some_iff.1 hj).1;rwa [Sc_length] at this
 have hsl:=h.slots
 have hth:∀ x,x < 2 → (w.cell? ⟨g,i * 2 + x,none⟩).isSome = true:=fun x hx => by
  obtain ⟨h1,h2⟩:=hsl i hi
  rw [Nat.zero_add] at h1 h2
  rcases x with _ | _ | x
  ·rw [show i * 2 + 0 = i * 2 from rfl,h1];rfl
  ·rw [h2];rfl
  ·omega
 obtain ⟨q,hq⟩:∃ q,j = q * 2 ∨ j = q * 2 + 1:=⟨j / 2,by omega⟩
 have hqn:q < n:=by omega
 obtain ⟨s1,s2⟩:=Sc_get J M n q hqn
 obtain ⟨o1,o2⟩:=hsl q hqn
 rw [Nat.zero_add] at o1 o2
 by_cases hqi:q = i
 ·subst hqi
  rcases hq with rfl | rfl
  ·rw [s1] at hj;cases hj
   have:=World.cell?_setCells_in g [.int .u32 (J q),.string (M q)] (q * 2) w hth 0 (by simp)
   exact this
  ·rw [s2] at hj;cases hj
   have:=World.cell?_setCells_in g [.int .u32 (J q),.string (M q)] (q * 2) w hth 1 (by simp)
   exact this
 ·obtain ⟨e1,e2⟩:=hs q hqn hqi
  rw [World.cell?_setCells_out g _ (i * 2) w ⟨g,j,none⟩ (fun _ => by simp;omega)]
  rcases hq with rfl | rfl
  ·rw [s1] at hj;cases hj;rw [← e1];exact o1
  ·rw [s2] at hj;cases hj;rw [← e2];exact o2
structure RdS (w:World) (g:Nat) (T:TypeId) (z:Nat → Int) (k:Nat) (W:World):Prop where
 b:Blk W g T 256 z
 r:At W w.heap.size 172 (Sc (upI z k) (upN z k) 8).toArray
 bel:Below w.heap.size w W
theorem RdS.below {w:World} {g:Nat} {T:TypeId} {z:Nat → Int} {k:Nat} {W W':World} (h:RdS w g T z k W) (hb:Below W.heap.size W W'):RdS w g T z k W':=⟨h.b.below hb h.b.lt,h.r.below hb h.r.lt,h.bel.trans (hb.mono h.bel.size)⟩
theorem Sc_size (I:Nat → Int) (N:Nat → ByteArray) (k:Nat):(Sc I N k).toArray.size = k * 2:=by simp [Sc_length]
theorem results_slots {fn:Func} {p u:Tmp} (h:fn.results = #[.cell p 172,.tmp u]) (tmps:Array Value) (w:World) (g:Nat) (I:Nat → Int) (N:Nat → ByteArray)
  (hp:tmps.getD p undef = .pointer (some ⟨g,0,none⟩)) (hg:At w g 172 (Sc I N 8).toArray):(results fn tmps).run Tryz.prog w = .ok (.tuple #[.agg (Sc I N 8).toArray,tmps.getD u undef]) w :=
 results_row_tmp h tmps w g 172 _ (0,0) _ hp hg Tryz.underlying172 rfl (info_slots _ _)
theorem read_any (g:Nat) (z:Nat → Int) (hz:Byt z) {T:TypeId} (w:World) (hB:Blk w g T 256 z) :
  Calls Tryz.prog 95 #[.pointer (some ⟨g,0,none⟩)] w fun e w' => e = .returned (.tuple #[.agg (Sc (sdI z) (sdN z) 8).toArray,.bool (dirB z)]) ∧ Below w.heap.size w w':=by
 have hal:=zero_slots
 have HB:=Lib.hid hB
 clear hB
 go_enter Tryz.func95,Tryz.ntmps95
 go_wp2_with fail
 have hglt:=HB.out.lt
 have st0:RdS w g T z 0 (w.alloc (.cells (Sc noI noN 8).toArray 172)):=⟨HB.out.alloc _,At.new _ _ _,(Below.refl _ _).alloc (Nat.le_refl _) _⟩
 clear hal
 go_loopw [5] (fun u wr => ∃ k:Nat,k ≤ 8 ∧ u = .int .i64 (k:Int) ∧ Hid (rdB z k = true) ∧ RdS w g T z k wr) (fun u _ => 8 - (intOf u).toNat)
 case atStart => exact ⟨0,by omega,rfl,rfl,st0⟩
 case round =>
  clear st0
  obtain ⟨k,hk,rfl,HRD,st⟩:=hrel
  by_cases hlt:k < 8
  ·go_wp2_with fail
   refine (cut_any g k hlt _).mono ?_
   rintro e w2 ⟨rfl,rfl⟩
   go_wp2_with fail
   refine (slot_any g k hlt z hz _ st.b).mono ?_
   rintro e w3 ⟨rfl,hb3⟩
   have st3:=st.below hb3
   clear st hb3
   have hth:w3.there w.heap.size (k * 2) 2:=fun j hj => ⟨by
    obtain ⟨h1,h2⟩:=st3.r.slots k hlt
    rw [Nat.zero_add] at h1 h2
    rcases j with _ | _ | j
    ·rw [Nat.add_zero,h1];rfl
    ·rw [h2];rfl
    ·omega,soft_of_heap st3.r _⟩
   obtain ⟨hset,hon⟩:=st3.r.setSlot (J:=upI z (k + 1)) (M:=upN z (k + 1)) k hlt (fun j hj hne => by
    unfold upI upN
    by_cases h:j < k
    ·rw [if_pos h,if_pos h,if_pos (by omega),if_pos (by omega)];exact ⟨rfl,rfl⟩
    ·rw [if_neg h,if_neg h,if_neg (by omega),if_neg (by omega)];exact ⟨rfl,rfl⟩)
   rw [show upI z (k + 1) k = dI z k by unfold upI;rw [if_pos (by omega)],show upN z (k + 1) k = dM z k by unfold upN;rw [if_pos (by omega)]] at hset hon
   have st4:Hid (RdS w g T z (k + 1) (w3.setCells w.heap.size (k * 2) [.int .u32 (dI z k),.string (dM z k)])):=⟨st3.b.only hon (by omega),hset,st3.bel.trans (hon.below (Nat.le_refl _))⟩
   clear hset hon
   have hno:Hid (dirB z = false → Sc (sdI z) (sdN z) 8 = Sc noI noN 8):=fun h => Sc_congr fun i _ => by unfold sdI sdN;rw [h];exact ⟨rfl,rfl⟩
   cases hok:sOk (sl z k) with
   | false =>
    have HD:Hid (dirB z = false):=rdB_no hlt (by rw [rdB_succ,hok];simp)
    have HRI:Hid (Sc (sdI z) (sdN z) 8 = Sc noI noN 8):=hno.out HD.out
    have hR:=st4.out.r
    have hL:=st4.out.bel
    clear hno hok
    go_wp2_with (first | (refine wpList_store_mid rfl 90 _ _ rfl _ (k * 2) #[.int .u32 (dI z k),.string (dM z k)] rfl rfl hth (info_slot _ _) (one_slot _ _) ?_) | (refine wp_storeAt rfl 172 _ _ rfl _ (Sc noI noN 8).toArray _ rfl rfl hR (info_slots _ _) (by rw [Sc_size,Sc_size]) (one_slots _ _) ?_))
    intro w9 hR9 ho9
    go_wp2_with fail
    exact bodyPost_ret (results_slots rfl _ _ w.heap.size _ _ rfl hR9) rfl ⟨by rw [HD.out,HRI.out];rfl,hL.trans (ho9.below (Nat.le_refl _))⟩
   | true =>
   have HOK:=Lib.hid hok
   clear hok
   go_wp2_with (first | (refine wpList_store_mid rfl 90 _ _ rfl _ (k * 2) #[.int .u32 (dI z k),.string (dM z k)] rfl rfl hth (info_slot _ _) (one_slot _ _) ?_))
   have st5:=st4.out
   clear st4 hth st3
   generalize w3.setCells w.heap.size (k * 2) [.int .u32 (dI z k),.string (dM z k)] = w5 at st5 ⊢
   have hc0:∀ x:InW (RdS w g T z (k + 1)),x.W.cell? ⟨w.heap.size,k * 2,none⟩ = some (.int .u32 (dI z k)):=fun x => by
    have:=(x.h.r.slots k hlt).1
    rw [Nat.zero_add] at this
    rw [this];unfold upI;rw [if_pos (by omega)]
   have hc1:∀ x:InW (RdS w g T z (k + 1)),x.W.cell? ⟨w.heap.size,k * 2 + 1,none⟩ = some (.string (dM z k)):=fun x => by
    have:=(x.h.r.slots k hlt).2
    rw [Nat.zero_add] at this
    rw [this];unfold upN;rw [if_pos (by omega)]
   have l0:(0:Int) ≤ (k:Int):=by omega
   have l1:(k:Int) < 8:=by omega
   have hsl:∀ W,(Instr.sliceAt 172 (.pointer (some ⟨w.heap.size,0,none⟩)) none (some (.int .i64 (k:Int))) none).run Tryz.prog W = .ok (.slice (some ⟨w.heap.size,0,none⟩) k 8) W:=fun W => by
    have hal:Tryz.prog.arrayLen 172 = 8:=by kernel_rfl
    have hsz:∀ W,(Go.sizeOf (Tryz.prog.elem 172)).run Tryz.prog W = .ok 2 W:=fun W => by kernel_rfl
    rw [run_sliceAt_array_h W 172 _ (by kernel_rfl) .i64 (k:Int) (by omega) (by rw [hal];omega),hsz,hal]
    simp only [Result.andThen,slicedAt,Int.toNat_natCast]
    simp [addr_add]
   have hrow:Hid (∀ W,RdS w g T z (k + 1) W → SlRow W (some ⟨w.heap.size,0,none⟩) k (dI z) (dM z)):=fun W h => .inr ⟨_,_,rfl,fun i hi => by
    have:=h.r.slots i (by omega)
    unfold upI upN at this
    rw [if_pos (by omega),if_pos (by omega)] at this
    exact this⟩
   cases hi0:(dI z k != 0) with
   | false =>
    have HRD1:Hid (rdB z (k + 1) = true):=by
     show _ = _
     have e:(dI z k == 0) = true:=by rw [bne] at hi0;simpa using hi0
     rw [rdB_succ,HRD.out,HOK.out,e];rfl
    refine wp_region_S (RdS w g T z (k + 1)) (by kernel_rfl) (by kernel_rfl) ⟨st5.b,st5.r,st5.bel.drew⟩ ?_
    clear st5
    intro hne
    repeat (first | go_big_quiet_skip | (go_big_quiet_want;go_big_quiet_op;go_big_quiet_on))
    refine wpQuiet_nil ?_
    intro w6 h6
    have st6:=h6.out
    clear h6 hne hc0 hc1 hsl
    go_wp2_with fail
    go_roundw
    case rel => first | exact ⟨k + 1,by omega,by go_num,HRD1,st6⟩ | ((repeat apply Exists.intro);exact ⟨⟨k + 1,by omega,by go_num,HRD1,st6⟩,rfl⟩)
    case measure => simp [intOf];omega
   | true =>
    have e0:Hid ((dI z k == 0) = false):=by show _ = _;rw [bne] at hi0;simpa using hi0
    have hfc:Hid (firstB (hitB (dI z) (dM z) (dM z k)) k = -1 ∨ 0 ≤ firstB (hitB (dI z) (dM z) (dM z k)) k):=by
     rcases firstB_cases (hitB (dI z) (dM z) (dM z k)) k with h | ⟨j,_,h,_⟩
     ·exact .inl h.1
     ·exact .inr (by omega)
    have HF:Hid (rdB z (k + 1) = (firstB (hitB (dI z) (dM z) (dM z k)) k == -1)):=by show _ = _;rw [rdB_succ,HRD.out,HOK.out,e0.out];rfl
    have hcall:Hid (∀ W,RdS w g T z (k + 1) W → Calls Tryz.prog 140 #[.slice (some ⟨w.heap.size,0,none⟩) k 8,.string (dM z k)] W fun e w' => e = .returned (.int .i64 (firstB (hitB (dI z) (dM z) (dM z k)) k)) ∧ RdS w g T z (k + 1) w'):=fun W hW => (named_any _ k 8 (dI z) (dM z) (dM z k) (by omega) W (hrow.out W hW)).mono fun e w' h => ⟨h.1,hW.below h.2⟩
    generalize firstB (hitB (dI z) (dM z) (dM z k)) k = f at *
    refine wp_region_S (RdS w g T z (k + 1)) (by kernel_rfl) (by kernel_rfl) ⟨st5.b,st5.r,st5.bel.drew⟩ ?_
    clear st5
    intro hne
    repeat (first | go_big_quiet_skip | (go_big_quiet_want;go_big_quiet_op;go_big_quiet_on))
    go_big_quiet_want
    go_big_quiet_op
    refine ⟨_,fun s => q_call s (fun W hW => hcall.out W hW),?_⟩
    go_big_quiet_on
    repeat (first | go_big_quiet_skip | (go_big_quiet_want;go_big_quiet_op;go_big_quiet_on))
    refine wpQuiet_nil ?_
    intro w6 h6
    have st6:=h6.out
    clear h6 hne hc0 hc1 hsl
    rcases hfc.out with hf | hf
    ·have HRD1:Hid (rdB z (k + 1) = true):=by show _ = _;rw [HF.out,hf];rfl
     have q:¬ (0:Int) ≤ f:=by omega
     subst hf
     go_wp2_with fail
     go_roundw
     case rel => first | exact ⟨k + 1,by omega,by go_num,HRD1,st6⟩ | ((repeat apply Exists.intro);exact ⟨⟨k + 1,by omega,by go_num,HRD1,st6⟩,rfl⟩)
     case measure => simp [intOf];omega
    ·have HD:Hid (dirB z = false):=rdB_no hlt (by rw [HF.out];simp;omega)
     have HRI:Hid (Sc (sdI z) (sdN z) 8 = Sc noI noN 8):=hno.out HD.out
     have hR:=st6.r
     have hL:=st6.bel
     go_wp2_with (first | (refine wp_storeAt rfl 172 _ _ rfl _ (Sc noI noN 8).toArray _ rfl rfl hR (info_slots _ _) (by rw [Sc_size,Sc_size]) (one_slots _ _) ?_))
     intro w9 hR9 ho9
     go_wp2_with fail
     exact bodyPost_ret (results_slots rfl _ _ w.heap.size _ _ rfl hR9) rfl ⟨by rw [HD.out,HRI.out];rfl,hL.trans (ho9.below (Nat.le_refl _))⟩
  ·obtain rfl:k = 8:=by omega
   have HD:Hid (dirB z = true):=HRD.out
   have HRI:Hid (Sc (sdI z) (sdN z) 8 = Sc (upI z 8) (upN z 8) 8):=Sc_congr fun i hi => by unfold sdI sdN upI upN;rw [HD.out,if_pos hi,if_pos hi];exact ⟨rfl,rfl⟩
   have hR:=st.r
   go_wp2_with (first | (refine wp_loadAtG rfl 172 _ rfl _ _ _ rfl hR Tryz.underlying172 rfl (info_slots _ _) ?_) | (refine wp_storeAt rfl 172 _ _ rfl _ (Sc (upI z 8) (upN z 8) 8).toArray _ rfl rfl hR (info_slots _ _) rfl (one_slots _ _) ?_))
   intro w9 hR9 ho9
   go_wp2_with fail
   exact bodyPost_ret (results_slots rfl _ _ w.heap.size _ _ rfl hR9) rfl ⟨by rw [HD.out,HRI.out];rfl,st.bel.trans (ho9.below (Nat.le_refl _))⟩
end Go.Proofs.YtphamecphmbipaaGreatDoor
