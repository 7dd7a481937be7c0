/- Texts of this claim, merged. -/
import Derived.Test.YtphamecphmbipaaGreatDoorK09
import Derived.Lib.Strings
import Derived.Lib.Slices
import Derived.Lib.Walk
import Derived.Lib.Bytealg
import Derived.Deep.DeepAppendRoom
set_option maxRecDepth 100000
set_option maxHeartbeats 16000000

namespace Go.Proofs.YtphamecphmbipaaGreatDoor
open Go.RowKit
set_option linter.unusedVariables false
section
variable {P:Program}
theorem run_storeVar1 (w:World) (b off:Nat) (ty:TypeId) (u v:Value) (hc:w.cell? ⟨b,off,none⟩ = some u) (hf:w.frozen? ⟨b,off,none⟩ = false) (hi:(P.info? ty).map (·.size) = some 1) (h1:v.oneCell' = true) :
  (storeVar ty ⟨b,off,none⟩ v).run P w = .ok () (w.setCell ⟨b,off,none⟩ v):=by
 have hv:v.cells = #[v]:=by cases v <;> first | rfl | cases h1
 have hst:(store ⟨b,off,none⟩ v).run P w = .ok () (w.setCell ⟨b,off,none⟩ v):=by rw [run_store P w _ _ _ h1,hc];simp [hf]
 cases hq:P.info? ty with
 | none => simp [hq] at hi
 | some i =>
  have hs:i.size = 1:=by simpa [hq] using hi
  simp [storeVar,sizeOf,typeInfo,hq,hv,hs,storeCells,addr_add,hst]
theorem wp_store1 {ops:Array Oper} {rest:List Oper} {o:Oper} {a:Act} {w:World} {Q:Exit → Act → World → Prop} (hgd:o.guard = none) (ty:TypeId) (x y:Operand) (ho:o.op = .store ty x y)
  (b off:Nat) (v:Value) (hx:a.eval x = .pointer (some ⟨b,off,none⟩)) (hy:a.eval y = v) (u:Value) (hc:w.cell? ⟨b,off,none⟩ = some u) (hf:w.frozen? ⟨b,off,none⟩ = false) (hi:(P.info? ty).map (·.size) = some 1) (h1:v.oneCell' = true)
  (h:wpList P ops Q rest (a.put o.dst undef) (w.setCell ⟨b,off,none⟩ v)):wpList P ops Q (o :: rest) a w :=
 wpList_plain hgd fun _ hK => by
  unfold Oper.wp execOp
  simp only [ho,hx,hy,Instr.storeAt,Instr.sureAddr,Sem.run_bind,Sem.run_pure,Result.andThen_ok,run_storeVar1 w b off ty u v hc hf hi h1]
  exact hK _ _ h
end
theorem info_u8:(Tryz.prog.info? 5).map (·.size) = some 1:=by kernel_rfl
theorem wp_storeByte {ops:Array Oper} {rest:List Oper} {o:Oper} {a:Act} {w:World} {Q:Exit → Act → World → Prop} (hgd:o.guard = none) (x y:Operand) (ho:o.op = .store 5 x y)
  (b off:Nat) (v:Int) (hx:a.eval x = .pointer (some ⟨b,off,none⟩)) (hy:a.eval y = .int .u8 v) {T:TypeId} {n:Nat} {z:Nat → Int} (hB:Blk w b T n z) (hn:off < n)
  (h:∀ w',Blk w' b T n (over z off 1 (fun _ => v)) → Only b w w' → wpList Tryz.prog ops Q rest (a.put o.dst undef) w'):wpList Tryz.prog ops Q (o :: rest) a w :=
 wp_store1 hgd 5 x y ho b off _ hx hy _ (by have:=hB.seg off hn;rwa [Nat.zero_add] at this) (soft_of_heap hB off) info_u8 rfl (h _ (hB.setCell off v hn) (Only.setCell w ⟨b,off,none⟩ _))
def Cl (R:World → Prop):Prop:=∀ W W',R W → Below W.heap.size W W' → R W'
section
variable {P:Program} {md:Region.Mode} {ops ops1:Array Oper} {S:World → Prop} {A:Act}
variable {n d:Nat} {al:Oper} {l2:List Oper} {T:TypeId} {cs:Array Value} {Q:Exit → Act → World → Prop} {base:Nat}
end
theorem lite_IndexByte (s:ByteArray) (c:Int) (w:World) :
  Calls Tryz.prog 167 #[.string s,.int .u8 c] w fun e w' => e = .returned (.int .i64 (Lib.indexByte s.data.toList c.toNat.toUInt8)) ∧ w' = w:=by
 go_enter Tryz.func167,Tryz.ntmps167
 go_wp2
 rw [run_callFunc_extern Tryz.func168 (by kernel_rfl) (by kernel_rfl) (by kernel_rfl) (e:=Extern.BytealgIndexByte.indexByte) (by kernel_rfl),Lib.run_indexByteString]
 simp only [Result.andThen]
 rw [Oper.upon_value]
 go_wp2
 go_ret
 exact ⟨rfl,rfl⟩
theorem strings_IndexByte (s:ByteArray) (c:Int) (w:World) :
  Calls Tryz.prog 164 #[.string s,.int .u8 c] w fun e w' => e = .returned (.int .i64 (Lib.indexByte s.data.toList c.toNat.toUInt8)) ∧ w' = w:=by
 go_enter Tryz.func164,Tryz.ntmps164
 go_wp2_with fail
 refine (lite_IndexByte _ _ _).mono ?_
 rintro e w' ⟨rfl,rfl⟩
 go_wp2_with fail
 go_ret
 exact ⟨rfl,rfl⟩
def mayL (l:List UInt8):Bool:=decide (1 ≤ l.length) && (decide (l.length ≤ 27) && (l != [46] && (l != [46,46] && (!l.contains 47 && !l.contains 0))))
def mayB (s:ByteArray):Bool:=mayL s.data.toList
theorem indexByte_neg (l:List UInt8) (c:UInt8):decide (Lib.indexByte l c < 0) = !l.contains c:=by
 induction l with
 | nil => rfl
 | cons b l ih =>
  have hge:=Lib.indexByte_ge l c
  unfold Lib.indexByte
  by_cases hb:(b == c) = true
  ·have:b = c:=by simpa using hb
   subst this;simp
  ·have hb':(b == c) = false:=by simpa using hb
   have hcb:(c == b) = false:=by rw [beq_eq_false_iff_ne] at hb' ⊢;exact fun h => hb' h.symm
   rw [List.contains_cons,hcb,Bool.false_or,← ih,hb']
   simp only [Bool.false_eq_true,if_false]
   split
   ·rename_i h1;have h2:=beq_iff_eq.1 h1;rw [h2]
   ·rename_i h1
    have:Lib.indexByte l c ≠ -1:=by simpa using h1
    rw [decide_eq_false (by omega),decide_eq_false (by omega)]
theorem mayName_any (s:ByteArray) (hs:s.size ≤ 9223372036854775807) (w:World):Calls Tryz.prog 160 #[.string s] w fun e w' => e = .returned (.bool (mayB s)) ∧ w = w':=by
 have hsz:s.size = s.toList.length:=by rw [ByteArray.toList_eq];rfl
 have hM:mayB s = (decide (1 ≤ s.toList.length) && (decide (s.toList.length ≤ 27) && (s.toList != [46] && (s.toList != [46,46] && (!s.toList.contains 47 && !s.toList.contains 0))))):=by unfold mayB mayL;rw [ByteArray.toList_eq]
 have HM:=Lib.hid hM
 have HZ:=Lib.hid hsz
 clear hM hsz
 go_enter Tryz.func160,Tryz.ntmps160
 by_cases h1:1 ≤ s.size
 rotate_left
 ·have d1:(s.size:Int) < 1:=by omega
  have HN:Hid (mayB s = false):=by show _ = _;rw [HM.out,← HZ.out,decide_eq_false h1];rfl
  go_wp2_with fail
  go_ret
  exact ⟨by rw [HN.out];rfl,rfl⟩
 have d1:¬ (s.size:Int) < 1:=by omega
 by_cases h2:s.size ≤ 27
 rotate_left
 ·have d2:(27:Int) < s.size:=by omega
  have HN:Hid (mayB s = false):=by show _ = _;rw [HM.out,← HZ.out,decide_eq_false h2];simp
  go_wp2_with fail
  go_ret
  exact ⟨by rw [HN.out];rfl,rfl⟩
 have d2:¬ (27:Int) < s.size:=by omega
 cases h3:s.toList == [46] with
 | true =>
  have HN:Hid (mayB s = false):=by show _ = _;rw [HM.out,bne,h3];simp
  go_wp2_with fail
  go_ret
  exact ⟨by rw [HN.out];rfl,rfl⟩
 | false =>
 cases h4:s.toList == [46,46] with
 | true =>
  have HN:Hid (mayB s = false):=by show _ = _;rw [HM.out,bne,bne,h4];simp
  go_wp2_with fail
  go_ret
  exact ⟨by rw [HN.out];rfl,rfl⟩
 | false =>
 have HY:Hid (mayB s = (!s.data.toList.contains 47 && !s.data.toList.contains 0)):=by
  show _ = _
  rw [HM.out,← HZ.out,bne,bne,h3,h4,decide_eq_true h1,decide_eq_true h2,ByteArray.toList_eq];rfl
 go_wp2_with fail
 refine (strings_IndexByte _ _ _).mono ?_
 rintro e w' ⟨rfl,rfl⟩
 have e1:=indexByte_neg s.data.toList 47
 have e2:=indexByte_neg s.data.toList 0
 rw [show ((47:Int).toNat.toUInt8) = 47 from rfl]
 generalize Lib.indexByte s.data.toList 47 = k1 at *
 cases hc:s.data.toList.contains 47 with
 | true =>
  rw [hc] at e1 HY
  have q:¬ k1 < 0:=by simpa using e1
  clear e1 hc
  go_wp2_with fail
  go_ret
  exact ⟨by rw [HY.out];rfl,rfl⟩
 | false =>
  rw [hc] at e1 HY
  have q:k1 < 0:=by simpa using e1
  clear e1 hc
  go_wp2_with fail
  refine (strings_IndexByte _ _ _).mono ?_
  rintro e w' ⟨rfl,rfl⟩
  rw [show ((0:Int).toNat.toUInt8) = 0 from rfl]
  generalize Lib.indexByte s.data.toList 0 = k2 at *
  have E2:=Lib.hid e2
  clear e2
  go_wp2_with fail
  go_ret
  exact ⟨by rw [HY.out,← E2.out];rfl,rfl⟩
theorem RRow.only {W W':World} {a:Option Addr} {m n p:Nat} {f:Nat → List Value} (h:RRow W a m n f) (ho:Only p W W') (hne:∀ b off,a = some ⟨b,off,none⟩ → b ≠ p):RRow W' a m n f:=by
 rcases h with h | ⟨b,off,rfl,h⟩
 ·exact .inl h
 ·exact .inr ⟨b,off,rfl,fun i hi j v hj => (ho.cell (p:=⟨b,off + i * m + j,none⟩) (hne b off rfl)).trans (h i hi j v hj)⟩
theorem zero_bytJ:Byt (fun _ => 0):=fun _ => ⟨Int.le_refl 0,(by decide:(0:Int) < 256)⟩
end Go.Proofs.YtphamecphmbipaaGreatDoor

namespace Go.Proofs.YtphamecphmbipaaGreatDoor
open Go.RowKit Go.Shelf
set_option linter.unusedVariables false
attribute [local go_sem] Oper.semAt_some
section
variable {w:World} {t:Tr} {ca:Option Addr} {cc:Nat} {ra:Option Addr} {rc q p5 p6 cnt cap:Nat} {W W':World}
end
theorem At.grownQ {W W1:World} {q g:Nat} {T:TypeId} {cs:Array Value} (h:At W g T cs) (hg:W.grownBy W1 (some q)) (hne:g ≠ q):At W1 g T cs:=(hg.block _ h.lt (by intro e;injection e with e;exact hne e)).trans h
end Go.Proofs.YtphamecphmbipaaGreatDoor

namespace Go.Proofs.YtphamecphmbipaaGreatDoor
open Go.RowKit
set_option linter.unusedVariables false
theorem rputW (g:Nat) {T:TypeId} (l:Nat → Int) (k:Nat) (K v:Int) (hK:K = 4 * (k:Int)) (hk:k < 64) (hv:0 ≤ v) (hv2:v < 4294967296) (w:World) (hB:Blk w g T 256 (wz l)) :
  Calls Tryz.prog 71 #[.slice (some ⟨g,0,none⟩) 256 256,.int .i64 K,.int .u32 v] w fun e w' => e = .returned (.bool true) ∧ Blk w' g T 256 (wz (upd l k v)) ∧ Only g w w':=by
 refine (rput32_yes g 0 256 256 K v (wz l) w (by omega) (by omega) (by omega) hv hv2 hB.seg (wz_byt l) (hB.soft 0 256)).mono fun e w' ⟨he,hp⟩ => ⟨he,?_,hp.only⟩
 rw [show 0 + K.toNat = 4 * k by omega] at hp
 exact (hB.puts hp).congr fun i _ => wz_put l k v i
theorem numR_upd (m:Nat → Int) (k j:Nat):upd (numR m k) k (m k) j = numR m (k + 1) j:=by
 unfold upd numR
 by_cases h:j = k
 ·rw [if_pos h,if_pos (by omega),h]
 ·rw [if_neg h]
  by_cases c:j < k
  ·rw [if_pos c,if_pos (by omega)]
  ·rw [if_neg c,if_neg (by omega)]
structure BkC (w:World) (G b off n:Nat) (m:Nat → Int) (k j:Nat) (W:World):Prop where
 r:Blk W w.heap.size 32 256 (fun _ => 0)
 g:Blk W G 32 256 (wz (if j = 0 then numR m k else numR m (k + 1)))
 t:NumSeg W b off n m
 bel:Below w.heap.size w W
theorem rblock_any (a:Option Addr) (n cap:Nat) (m:Nat → Int) (hm:Wds m) (hn:n ≤ 64) (w:World) (hT:NumRow w a n m) :
  Calls Tryz.prog 101 #[.slice a n cap] w fun e w' => e = .returned (bval (wz (numR m n))) ∧ Below w.heap.size w w':=by
 have hal:=zero_block
 have hR:Blk ((w.alloc (.cells (Ks .u8 256 (fun _ => 0)).toArray 32)).alloc (.cells (Ks .u8 256 (fun _ => 0)).toArray 32)) w.heap.size 32 256 (fun _ => 0):=(Blk.new _ _ _ _).alloc _
 have hB:Blk ((w.alloc (.cells (Ks .u8 256 (fun _ => 0)).toArray 32)).alloc (.cells (Ks .u8 256 (fun _ => 0)).toArray 32)) (w.heap.size + 1) 32 256 (wz (numR m 0)):=by
  have:=Blk.new (w.alloc (.cells (Ks .u8 256 (fun _ => 0)).toArray 32)) 32 256 (fun _ => 0)
  simp only [World.size_alloc] at this
  exact this.congr fun i _ => (byteOf_0 _).symm
 have hL:Below w.heap.size w ((w.alloc (.cells (Ks .u8 256 (fun _ => 0)).toArray 32)).alloc (.cells (Ks .u8 256 (fun _ => 0)).toArray 32)):=((Below.refl _ _).alloc (Nat.le_refl _) _).alloc (by simp) _
 have hT1:=hT.below hL
 have hblk:∀ x,a = some x → 0 < n → x.block < w.heap.size:=fun x hx h0 => hT.block h0 x hx
 have HBLK:=Lib.hid hblk
 have HM:=Lib.hid hm
 clear hT hblk hm
 go_enter Tryz.func101,Tryz.ntmps101
 go_wp2_with fail
 generalize ((w.alloc (.cells (Ks .u8 256 (fun _ => 0)).toArray 32)).alloc (.cells (Ks .u8 256 (fun _ => 0)).toArray 32)) = w1 at hR hB hL hT1 ⊢
 go_loopw [4] (fun u wr => ∃ k:Nat,k ≤ n ∧ u = .int .i64 (k:Int) ∧ Blk wr w.heap.size 32 256 (fun _ => 0) ∧ Blk wr (w.heap.size + 1) 32 256 (wz (numR m k)) ∧ NumRow wr a n m ∧ Below w.heap.size w wr) (fun u _ => n - (intOf u).toNat)
 case atStart => exact ⟨0,by omega,rfl,hR,hB,hT1,hL⟩
 case round =>
  clear hR hB hL hT1
  obtain ⟨k,hk,rfl,hR,hB,hT,hL⟩:=hrel
  by_cases hlt:k < n
  ·obtain ⟨b,off,rfl,hseg⟩:∃ b off,a = some ⟨b,off,none⟩ ∧ NumSeg wr b off n m:=by
    rcases hT with h | h
    ·omega
    ·exact h
   have hblt:=HBLK.out _ rfl (by omega)
   simp only at hblt
   obtain ⟨hm0,hm1⟩:=HM.out k
   have hc0:∀ x:InW (fun W => ∃ j,BkC w (w.heap.size + 1) b off n m k j W),x.W.cell? ⟨b,off + k,none⟩ = some (.int .u32 (m k)):=fun x => by obtain ⟨j,h⟩:=x.h;exact h.t k hlt
   have e1:IntKind.i64.wrap (4 * (k:Int)) = 4 * (k:Int):=IntWalk.i64_in _ (by omega)
   have hsa:=fun W => run_sliceBlkAll (w.heap.size + 1) 0 W
   have l0:(0:Int) ≤ (k:Int):=by omega
   have l1:(k:Int) < (n:Int):=by omega
   go_wp2_with fail
   refine wp_region_lin (BkC w (w.heap.size + 1) b off n m k) (by kernel_rfl) (by kernel_rfl) (by kernel_rfl) ⟨hR,hB,hseg,hL.drew⟩ ?_
   intro hne
   (refine lin_take 7 (by kernel_rfl) ?_;simp only [List.take_succ_cons,List.take_zero,List.drop_succ_cons,List.drop_zero])
   first | go_big_quiet_skip | (go_big_quiet_want;go_big_quiet_op;go_big_quiet_on)
   first | go_big_quiet_skip | (go_big_quiet_want;go_big_quiet_op;go_big_quiet_on)
   first | go_big_quiet_skip | (go_big_quiet_want;go_big_quiet_op;go_big_quiet_on)
   first | go_big_quiet_skip | (go_big_quiet_want;go_big_quiet_op;go_big_quiet_on)
   first | go_big_quiet_skip | (go_big_quiet_want;go_big_quiet_op;go_big_quiet_on)
   first | go_big_quiet_skip | (go_big_quiet_want;go_big_quiet_op;go_big_quiet_on)
   first | go_big_quiet_skip | (go_big_quiet_want;go_big_quiet_op;go_big_quiet_on)
   refine wpQuiet_nil ?_
   refine lin_call rfl rfl 71 #[.slice (some ⟨w.heap.size + 1,0,none⟩) 256 256,.int .i64 (4 * (k:Int)),.int .u32 (m k)] (.bool true) (fun W => by kernel_rfl) (fun W h => ?c1) ?_
   case c1 =>
    refine (rputW (w.heap.size + 1) (numR m k) k (4 * (k:Int)) (m k) rfl (by omega) hm0 hm1 W h.g).mono ?_
    rintro e w6 ⟨rfl,hB6,ho6⟩
    exact ⟨rfl,h.r.only ho6 (by omega),hB6.congr fun i hi => wz_congr 64 (fun j _ => numR_upd m k j) i hi,h.t.only ho6 (by omega),h.bel.trans (ho6.below (by omega))⟩
   refine wpLin_frame (by simp only [Act.put,List.setIfInBounds_toArray,List.set_cons_succ,List.set_cons_zero];exact rfl) ?_
   refine wpLin_nil ?_
   rintro w6 ⟨hR6,hB6,hT6,hL6⟩
   rw [if_neg (by decide)] at hB6
   clear hne hR hB hT hL hseg hc0 e1 hsa
   go_wp2_with fail
   go_roundw
   case rel => first | exact ⟨k + 1,by omega,by go_num,hR6,hB6,.inr ⟨b,off,rfl,hT6⟩,hL6⟩ | ((repeat apply Exists.intro);exact ⟨⟨k + 1,by omega,by go_num,hR6,hB6,.inr ⟨b,off,rfl,hT6⟩,hL6⟩,rfl⟩)
   case measure => simp [intOf];omega
  ·obtain rfl:k = n:=by omega
   go_wp2_with (first | (refine wp_loadBlk rfl (.tmp 3) rfl (w.heap.size + 1) (wz (numR m k)) rfl hB ?_) | (refine wp_storeBlk rfl (.tmp 2) (.tmp 19) rfl w.heap.size (wz (numR m k)) _ rfl rfl hR ?_))
   intro w6 hR6 ho6
   go_wp2_with fail
   exact bodyPost_ret (results_blk rfl _ _ w.heap.size _ rfl hR6) rfl ⟨rfl,hL.trans (ho6.below (Nat.le_refl _))⟩
theorem run_nums4 (a b c d:Int) (w:World):(Instr.buildSlice 180 4 #[(0,.int .u32 a),(1,.int .u32 b),(2,.int .u32 c),(3,.int .u32 d)]).run Tryz.prog w = .ok (.slice (some ⟨w.heap.size,0,none⟩) 4 4) (w.alloc (.cells #[.int .u32 a,.int .u32 b,.int .u32 c,.int .u32 d] 45)):=by kernel_rfl
theorem nums4 (w:World) (k s f:Int) (r:Nat → Int):NumRow (w.alloc (.cells #[.int .u32 1280199249,.int .u32 k,.int .u32 s,.int .u32 f] 45)) (some ⟨w.heap.size,0,none⟩) 4 (jw k s f r):=by
 refine .inr ⟨_,_,rfl,fun i hi => ?_⟩
 have h:=heap_alloc_new w (.cells #[.int .u32 1280199249,.int .u32 k,.int .u32 s,.int .u32 f] 45)
 obtain rfl | rfl | rfl | rfl:i = 0 ∨ i = 1 ∨ i = 2 ∨ i = 3:=by omega
 all_goals exact cell_of_heap h rfl
theorem wz_numR {m l:Nat → Int} {n:Nat} (h:∀ k,k < 64 → (if k < n then m k else 0) = l k):bval (wz (numR m n)) = bval (wz l):=bval_congr fun i hi => wz_congr 64 h i hi
theorem nz_wds':Wds nz:=fun _ => by unfold nz;decide
theorem rWriteHead_any (s t:Int) (w:World) (hs:0 ≤ s ∧ s < 4294967296) (ht:-9223372036854775808 ≤ t ∧ t ≤ 9223372036854775807) :
  Calls Tryz.prog 62 #[.agg #[.int .u32 s,.int .i64 t]] w fun e w' => e = .returned (.tuple #[bval (headZ s t),.int .i64 (errOf (headOk s t) 2)]) ∧ Below w.heap.size w w':=by
 obtain ⟨hs0,hs1⟩:=hs
 obtain ⟨ht0,ht1⟩:=ht
 have hal:=zero_block
 obtain ⟨W,hW⟩:∃ W,W = (w.alloc (.cells #[.int .u32 s,.int .i64 t] 141)).alloc (.cells (Ks .u8 256 (fun _ => 0)).toArray 32):=⟨_,rfl⟩
 have c0:W.cell? ⟨w.heap.size,0,none⟩ = some (.int .u32 s):=by rw [hW];exact cell_of_heap (heap_alloc_keep (heap_alloc_new w _) _) rfl
 have c1:W.cell? ⟨w.heap.size,1,none⟩ = some (.int .i64 t):=by rw [hW];exact cell_of_heap (heap_alloc_keep (heap_alloc_new w _) _) rfl
 have hR:Blk W (w.heap.size + 1) 32 256 (fun _ => 0):=by
  rw [hW]
  have:=Blk.new (w.alloc (.cells #[.int .u32 s,.int .i64 t] 141)) 32 256 (fun _ => 0)
  simp only [World.size_alloc] at this
  exact this
 have hL:Below w.heap.size w W:=by rw [hW];exact ((Below.refl _ _).alloc (Nat.le_refl _) _).alloc (by simp) _
 have HW:=Lib.hid hW
 have HC0:=Lib.hid c0
 have HC1:=Lib.hid c1
 clear hW c0 c1
 go_enter Tryz.func62,Tryz.ntmps62
 go_wp2_with fail
 rw [← HW.out]
 refine (rSeq_any s _).mono ?_
 rintro e w1 ⟨rfl,rfl⟩
 have c0:=HC0.out
 have c1:=HC1.out
 clear HC0 HC1 HW
 by_cases hq:seqB s = true
 rotate_left
 ·rw [Bool.not_eq_true] at hq
  have HO:Hid (headOk s t = false):=by show _ = _;unfold headOk;rw [hq];rfl
  rw [hq]
  clear hq
  go_wp2_with (first | (refine wp_storeBlk rfl (.tmp 2) (.tmp 18) rfl (w.heap.size + 1) (fun _ => 0) _ rfl rfl hR ?_))
  intro w2 hR2 ho2
  go_wp2_with fail
  exact bodyPost_ret (results_blk2 rfl _ _ (w.heap.size + 1) _ rfl hR2) rfl ⟨by rw [headZ,HO.out];rfl,hL.trans (ho2.below (by omega))⟩
 by_cases h1:0 ≤ t
 rotate_left
 ·have HO:Hid (headOk s t = false):=by show _ = _;unfold headOk;simp [h1]
  rw [hq]
  clear hq
  go_wp2_with (first | (refine wp_storeBlk rfl (.tmp 2) (.tmp 18) rfl (w.heap.size + 1) (fun _ => 0) _ rfl rfl hR ?_))
  intro w2 hR2 ho2
  go_wp2_with fail
  exact bodyPost_ret (results_blk2 rfl _ _ (w.heap.size + 1) _ rfl hR2) rfl ⟨by rw [headZ,HO.out];rfl,hL.trans (ho2.below (by omega))⟩
 by_cases h2:t ≤ 255
 rotate_left
 ·have HO:Hid (headOk s t = false):=by show _ = _;unfold headOk;simp [h2]
  rw [hq]
  clear hq
  go_wp2_with (first | (refine wp_storeBlk rfl (.tmp 2) (.tmp 18) rfl (w.heap.size + 1) (fun _ => 0) _ rfl rfl hR ?_))
  intro w2 hR2 ho2
  go_wp2_with fail
  exact bodyPost_ret (results_blk2 rfl _ _ (w.heap.size + 1) _ rfl hR2) rfl ⟨by rw [headZ,HO.out];rfl,hL.trans (ho2.below (by omega))⟩
 have HO:Hid (headOk s t = true):=by show _ = _;unfold headOk;rw [hq];simp [h1,h2]
 rw [hq]
 clear hq
 have hbs:=run_nums4
 have hrow:=nums4 W 4 s t nz
 have HROW:=Lib.hid hrow
 clear hrow
 go_wp2_with fail
 refine (rblock_any _ 4 4 (jw 4 s t nz) (jw_wds (by decide) (by omega) (by omega) nz_wds') (by decide) _ HROW.out).mono ?_
 rintro e w2 ⟨rfl,hb2⟩
 rw [wz_numR (l:=jw 4 s t nz) (fun k _ => by
  split
  ·rfl
  ·unfold jw nz;rw [if_neg (by omega),if_neg (by omega),if_neg (by omega),if_neg (by omega)])]
 have hR2:=(hR.alloc _).below hb2 (hR.alloc _).lt
 have hL2:Below w.heap.size w w2:=(hL.alloc hL.size _).trans (hb2.mono (hL.alloc hL.size _).size)
 clear hR hL hb2 c0 c1 hbs HROW
 go_wp2_with (first | (refine wp_storeBlk rfl (.tmp 2) (.tmp 25) rfl (w.heap.size + 1) (wz (jw 4 s t nz)) _ rfl rfl hR2 ?_))
 intro w3 hR3 ho3
 go_wp2_with fail
 exact bodyPost_ret (results_blk2 rfl _ _ (w.heap.size + 1) _ rfl hR3) rfl ⟨by rw [headZ,HO.out];rfl,hL2.trans (ho3.below (by omega))⟩
theorem own_only {W W':World} {base k p:Nat} {v:Value} {e:TypeId} {size:Nat} {xs:List Value} (h:W.ownsRow base e size v k xs) (ho:Only p W W') (hp:v.ownBlock ≠ some p):W'.ownsRow base e size v k xs:=by
 refine ⟨h.1,?_⟩
 rcases h.2 with h' | ⟨g',cap',cur,hv,hbb,hg,hr⟩
 ·exact .inl h'
 ·exact .inr ⟨g',cap',cur,hv,hbb,(ho.block g' (fun e => hp (by rw [hv,e];rfl))).trans hg,hr⟩
def tr0 (s:Int):Tr:=⟨s,0,fun _ => 0,fun _ _ => 0,0,fun _ => 0⟩
section
variable {w:World} {la:Option Addr} {N:Nat} {L:Nat → Nat → Int} {n m:Nat} {s:Int} {cb:Nat → Int} {cd:Nat → Nat → Int} {rv:Nat → Int} {ca:Option Addr} {cc:Nat} {ra:Option Addr} {rc:Nat} {W W':World}
end
theorem AtGrown {W W1:World} {g:Nat} {T:TypeId} {cs:Array Value} {row:Option Nat} (h:At W g T cs) (hg:W.grownBy W1 row) (hne:row ≠ some g):At W1 g T cs:=(hg.block _ h.lt (fun e => hne e.symm)).trans h
theorem At.setF {W:World} {g:Nat} {T:TypeId} {cs:Array Value} (h:At W g T cs) (i:Nat) (v:Value):At (W.setCell ⟨g,i,none⟩ v) g T (cs.setIfInBounds i v):=by
 obtain ⟨hlt,hk⟩:=Array.getElem?_eq_some_iff.1 h
 show (W.heap.modify g _)[g]? = _
 rw [Array.getElem?_eq_getElem (by rw [Array.size_modify];exact hlt),Array.getElem_modify_self,hk]
 rfl
theorem info_int3:(Tryz.prog.info? 3).map (fun i => (i.zero,i.size,i.bytes)) = some (some (.int .i64 0),1,8):=by kernel_rfl
theorem info_intP:∃ i,Tryz.prog.info? 3 = some i ∧ i.zero = some (.int .i64 0) ∧ i.size = 1 ∧ i.bytes = 8:=by
 obtain ⟨i,hi,hz⟩:=Option.map_eq_some_iff.1 info_int3
 simp only [Prod.mk.injEq] at hz
 exact ⟨i,hi,hz.1,hz.2.1,hz.2.2⟩
end Go.Proofs.YtphamecphmbipaaGreatDoor
