/- Texts of this claim, merged. -/
import Derived.Test.YtphamecphmbipaaGreatDoorK08
import Derived.ProofKit
set_option maxRecDepth 100000
set_option maxHeartbeats 16000000

namespace Go.Proofs.YtphamecphmbipaaGreatDoor
open Go.RowKit
set_option linter.unusedVariables false
theorem results_row {P:Program} {fn:Func} {p:Tmp} {ty:TypeId} (h:fn.results = #[.cell p ty]) (tmps:Array Value) (w:World) (g:Nat) (t:TypeId) (cs:Array Value) (fr:Nat × Nat) (d:TypeDesc)
  (hp:tmps.getD p undef = .pointer (some ⟨g,0,none⟩)) (hg:w.heap[g]? = some (.cells cs t fr))
  (hu:P.underlying ty = some d) (hd:(match d with | .struct _ | .array _ _ => true | _ => false) = true) (hi:(P.info? ty).map (·.size) = some cs.size) :
  (results fn tmps).run P w = .ok (.agg cs) w:=by
 have hp':tmps[p]?.getD undef = .pointer (some ⟨g,0,none⟩):=by simpa using hp
 simp [results,h,hp',asAddr,run_loadVar_row w g t ty cs fr d hg hu hd hi]
theorem results_blk {fn:Func} {p:Tmp} (h:fn.results = #[.cell p 32]) (tmps:Array Value) (w:World) (g:Nat) (z:Nat → Int)
  (hp:tmps.getD p undef = .pointer (some ⟨g,0,none⟩)) (hg:Blk w g 32 256 z):(results fn tmps).run Tryz.prog w = .ok (bval z) w :=
 results_row h tmps w g 32 (Ks .u8 256 z).toArray (0,0) _ hp hg Tryz.underlying32 rfl (info_block' _)
theorem results_blk2 {fn:Func} {p u:Tmp} (h:fn.results = #[.cell p 32,.tmp u]) (tmps:Array Value) (w:World) (g:Nat) (z:Nat → Int)
  (hp:tmps.getD p undef = .pointer (some ⟨g,0,none⟩)) (hg:Blk w g 32 256 z):(results fn tmps).run Tryz.prog w = .ok (.tuple #[bval z,tmps.getD u undef]) w :=
 results_row_tmp h tmps w g 32 (Ks .u8 256 z).toArray (0,0) _ hp hg Tryz.underlying32 rfl (info_block' _)
theorem bval_congr {z y:Nat → Int} (h:∀ i,i < 256 → z i = y i):bval z = bval y:=by unfold bval;rw [Ks_congr h]
theorem rSeq_any (s:Int) (w:World):Calls Tryz.prog 100 #[.int .u32 s] w fun e w' => e = .returned (.bool (seqB s)) ∧ w = w':=by
 by_cases h1:1 ≤ s
 ·by_cases h2:s ≤ 2147483648
  ·have hd:Hid (seqB s = true):=by show _ = _;simp [seqB,h1,h2]
   go_enter Tryz.func100,Tryz.ntmps100
   go_wp2
   go_ret
   exact ⟨ret_bool hd.out.symm,rfl⟩
  ·have hd:Hid (seqB s = false):=by show _ = _;simp [seqB,h1,h2]
   go_enter Tryz.func100,Tryz.ntmps100
   go_wp2
   go_ret
   exact ⟨ret_bool hd.out.symm,rfl⟩
 ·have hd:Hid (seqB s = false):=by show _ = _;simp [seqB,h1]
  go_enter Tryz.func100,Tryz.ntmps100
  go_wp2
  go_ret
  exact ⟨ret_bool hd.out.symm,rfl⟩
theorem zero_page (W:World):(zeroValue 108).run Tryz.prog W = .ok (.agg (Ks .u8 256 (fun _ => 0)).toArray) W:=by kernel_rfl
theorem info_page:(Tryz.prog.info? 108).map (·.size) = some 256:=by kernel_rfl
theorem info_page' (z:Nat → Int):(Tryz.prog.info? 108).map (·.size) = some (Ks .u8 256 z).toArray.size:=by rw [Ks_size];exact info_page
abbrev getFn (g:Nat):Value:=.func (.func 42) #[.pointer (some ⟨g,0,none⟩)] #[]
theorem pageGet4_any (g:Nat) (z:Nat → Int) (hzb:Byt z) (k:Nat) (K:Int) (hK:K = (k:Int)) (hk:k + 4 ≤ 256) (w:World) {T:TypeId} (hB:Blk w g T 256 z) :
  Calls Tryz.prog 87 #[.pointer (some ⟨g,0,none⟩),.int .i64 K] w fun e w' => e = .returned (.int .u32 (g32 z k)) ∧ w = w':=by
 subst hK
 have hsa:=fun W => run_sliceBlkAll g 0 W
 have hgt:=get32_yes g 0 256 256 (k:Int) z w (by omega) (by omega) (by omega) hB.seg hzb
 rw [Int.toNat_natCast] at hgt
 have HG:=Lib.hid hgt
 clear hgt
 go_enter Tryz.func87,Tryz.ntmps87
 go_wp2_with fail
 refine HG.out.mono ?_
 rintro e w1 ⟨rfl,rfl⟩
 go_wp2_with fail
 go_ret
 exact ⟨rfl,rfl⟩
theorem pageGet_any (g:Nat) (z:Nat → Int) (hzb:Byt z) (k:Nat) (K:Int) (hK:K = 2 * (k:Int)) (hk:k < 128) (w:World) {T:TypeId} (hB:Blk w g T 256 z) :
  Calls Tryz.prog 42 #[.pointer (some ⟨g,0,none⟩),.int .i64 K] w fun e w' => e = .returned (.int .i64 (hd z k)) ∧ w = w':=by
 have hsa:=fun W => run_sliceBlkAll g 0 W
 have hgt:=get16_yes g 0 256 256 K z w (by omega) (by omega) (by omega) hB.seg hzb
 rw [show K.toNat = 2 * k by omega] at hgt
 have hb:=g16_bd hzb (2 * k)
 have HG:=Lib.hid hgt
 have HD:Hid (hd z k = g16 z (2 * k)):=rfl
 clear hgt hK
 generalize g16 z (2 * k) = x at *
 go_enter Tryz.func42,Tryz.ntmps42
 go_wp2_with fail
 refine HG.out.mono ?_
 rintro e w1 ⟨rfl,rfl⟩
 go_wp2_with fail
 go_ret
 exact ⟨by rw [HD.out];rfl,rfl⟩
theorem pageTotal_any (g:Nat) (z:Nat → Int) (hzb:Byt z) (w:World) {T:TypeId} (hB:Blk w g T 256 z) (hT:Tab w) :
  Calls Tryz.prog 88 #[.pointer (some ⟨g,0,none⟩)] w fun e w' => e = .returned (.int .u32 (crcZ z 252)) ∧ Below w.heap.size w w':=by
 have hsa:=fun W => run_sliceBlk g 0 0 252 0 252 rfl rfl (by omega) (by omega) (by omega) W
 have HT:=Lib.hid hT
 clear hT
 go_enter Tryz.func88,Tryz.ntmps88
 go_wp2_with fail
 have hP:Pieces (w.alloc (.cells #[.slice (some ⟨g,0,none⟩) 252 256] 119)) (some ⟨w.heap.size,0,none⟩) 1 (fun _ => 252) (fun _ => z):=⟨fun k hk => by
  obtain rfl:k = 0:=by omega
  exact ⟨_,_,rfl,_,_,cell_of_heap (heap_alloc_new w _) rfl,.inr ⟨g,0,rfl,((hB.alloc _).seg.take 252 (by omega))⟩,by omega⟩⟩
 refine (crcSum_any _ 1 1 _ _ _ (by omega) hP (fun _ => hzb) (HT.out.alloc _)).mono ?_
 rintro e w1 ⟨rfl,rfl⟩
 clear hP
 go_wp2_with fail
 go_ret
 exact ⟨rfl,(Below.refl _ _).alloc (Nat.le_refl _) _⟩
theorem At.grown {w w':World} {g:Nat} {T:TypeId} {cs:Array Value} {row:Option Nat} (h:At w g T cs) (hb:w.grownBy w' row) (hg:some g ≠ row):At w' g T cs:=(hb.block g h.lt hg).trans h
theorem pageSealed_any (g:Nat) (z:Nat → Int) (hzb:Byt z) (w:World) {T:TypeId} (hB:Blk w g T 256 z) (hT:Tab w) :
  Calls Tryz.prog 39 #[.pointer (some ⟨g,0,none⟩)] w fun e w' => e = .returned (.bool (sumB z)) ∧ Below w.heap.size w w':=by
 have HN:Hid (sumB z = (g32 z 252 == crcZ z 252)):=rfl
 go_enter Tryz.func39,Tryz.ntmps39
 go_wp2_with fail
 refine (pageGet4_any g z hzb 252 252 rfl (by omega) w hB).mono ?_
 rintro e w0 ⟨rfl,rfl⟩
 go_wp2_with fail
 refine (pageTotal_any g z hzb w hB hT).mono ?_
 rintro e w1 ⟨rfl,hb1⟩
 go_wp2_with fail
 go_ret
 exact ⟨by rw [HN.out];rfl,hb1⟩
theorem pageNoughts_any (g:Nat) (z:Nat → Int) (lo hi:Nat) (L H:Int) (hL:L = (lo:Int)) (hH:H = (hi:Int)) (h1:lo ≤ hi) (h2:hi ≤ 256) (h3:lo < 256) (w:World) {T:TypeId} (hB:Blk w g T 256 z) :
  Calls Tryz.prog 40 #[.pointer (some ⟨g,0,none⟩),.int .i64 L,.int .i64 H] w fun e w' => e = .returned (.bool (allZ (fun i => z (lo + i)) (hi - lo))) ∧ w = w':=by
 have hsa:=fun W => run_sliceBlk g 0 lo hi L H hL hH h1 h2 h3 W
 have HZ:=Lib.hid (zero_any (some ⟨g,0 + lo,none⟩) (hi - lo) (256 - lo) (fun i => z (lo + i)) w (by omega) (.inr ⟨g,0 + lo,rfl,hB.seg.sub lo (hi - lo) (by omega)⟩))
 clear hL hH hB
 rw [Nat.zero_add] at hsa HZ
 go_enter Tryz.func40,Tryz.ntmps40
 go_wp2_with fail
 refine HZ.out.mono ?_
 rintro e w1 ⟨rfl,rfl⟩
 go_wp2_with fail
 go_ret
 exact ⟨rfl,rfl⟩
def geoH (l:Nat → Int) (G S I J:Int):Nat → Int:=upd (upd (upd (upd l 4 G) 5 S) 6 I) 7 J
theorem geo_small {G S I J:Int} (h:mayG G S I J = true):0 ≤ G ∧ G ≤ 65535 ∧ 0 ≤ S ∧ S ≤ 65535 ∧ 0 ≤ I ∧ I ≤ 65535 ∧ 0 ≤ J ∧ J ≤ 65535:=by
 obtain ⟨h1,h2,h3,h4,h5,h6,h7,h8,h9,h10,h11⟩:=(mayG_iff G S I J).1 h
 omega
abbrev sval (G S I J O:Int):Value:=.agg #[.int .i64 G,.int .i64 S,.int .i64 I,.int .i64 J,.int .u32 O]
abbrev scells (G S I J O:Int):Array Value:=#[.int .i64 G,.int .i64 S,.int .i64 I,.int .i64 J,.int .u32 O]
abbrev dval (B I D:Int):Value:=.agg #[.int .i64 B,.int .i64 I,.int .i64 D]
abbrev dcells (B I D:Int):Array Value:=#[.int .i64 B,.int .i64 I,.int .i64 D]
theorem zero_geo (W:World):(zeroValue 23).run Tryz.prog W = .ok (gval 0 0 0 0) W:=by kernel_rfl
theorem zero_super (W:World):(zeroValue 47).run Tryz.prog W = .ok (sval 0 0 0 0 0) W:=by kernel_rfl
theorem zero_desc (W:World):(zeroValue 67).run Tryz.prog W = .ok (dval 0 0 0) W:=by kernel_rfl
theorem getGeo_any (g:Nat) (z:Nat → Int) (hzb:Byt z) (w:World) {T:TypeId} (hB:Blk w g T 256 z) :
  Calls Tryz.prog 156 #[getFn g] w fun e w' => e = .returned (gval (hd z 4) (hd z 5) (hd z 6) (hd z 7)) ∧ Below w.heap.size w w':=by
 have hal:=zero_geo
 have HA:=Lib.hid (At.new w 23 (gcells 0 0 0 0))
 have HL:Hid (Below w.heap.size w (w.alloc (.cells (gcells 0 0 0 0) 23))):=(Below.refl _ _).alloc (Nat.le_refl _) _
 have HG:Hid (∀ (W:World) (k:Nat) (K:Int),Blk W g T 256 z → K = 2 * (k:Int) → k < 128 → Calls Tryz.prog 42 #[.pointer (some ⟨g,0,none⟩),.int .i64 K] W fun e w' => e = .returned (.int .i64 (hd z k)) ∧ W = w') :=
  fun W k K hB hK hk => pageGet_any g z hzb k K hK hk W hB
 have HB:=Lib.hid (hB.alloc (.cells (gcells 0 0 0 0) 23))
 clear hB
 go_enter Tryz.func156,Tryz.ntmps156
 go_wp2_with fail
 refine (HG.out _ 4 8 HB.out rfl (by omega)).mono ?_
 rintro e w1 ⟨rfl,rfl⟩
 go_wp2_with fail
 refine (HG.out _ 5 10 HB.out rfl (by omega)).mono ?_
 rintro e w1 ⟨rfl,rfl⟩
 go_wp2_with fail
 refine (HG.out _ 6 12 HB.out rfl (by omega)).mono ?_
 rintro e w1 ⟨rfl,rfl⟩
 go_wp2_with fail
 refine (HG.out _ 7 14 HB.out rfl (by omega)).mono ?_
 rintro e w1 ⟨rfl,rfl⟩
 go_wp2_with fail
 exact bodyPost_ret (results_row rfl _ _ _ _ _ _ _ rfl (At.new w 23 (gcells (hd z 4) (hd z 5) (hd z 6) (hd z 7))) Tryz.underlying23 rfl (by kernel_rfl)) rfl ⟨rfl,(Below.refl _ _).alloc (Nat.le_refl _) _⟩
theorem getDesc_any (g:Nat) (z:Nat → Int) (hzb:Byt z) (k:Nat) (K:Int) (hK:K = 8 * (k:Int)) (hk:k < 31) (w:World) {T:TypeId} (hB:Blk w g T 256 z) :
  Calls Tryz.prog 41 #[.int .i64 K,getFn g] w fun e w' => e = .returned (dval (hd z (4 * k)) (hd z (4 * k + 1)) (hd z (4 * k + 2))) ∧ Below w.heap.size w w':=by
 have hal:=zero_desc
 have HA:=Lib.hid (At.new w 67 (dcells 0 0 0))
 have HL:Hid (Below w.heap.size w (w.alloc (.cells (dcells 0 0 0) 67))):=(Below.refl _ _).alloc (Nat.le_refl _) _
 have HG:Hid (∀ (W:World) (j:Nat) (K':Int),Blk W g T 256 z → K' = K + 2 * (j:Int) → j < 3 → Calls Tryz.prog 42 #[.pointer (some ⟨g,0,none⟩),.int .i64 K'] W fun e w' => e = .returned (.int .i64 (hd z (4 * k + j))) ∧ W = w') :=
  fun W j K' hB hK' hj => pageGet_any g z hzb (4 * k + j) K' (by omega) (by omega) W hB
 have HB:=Lib.hid (hB.alloc (.cells (dcells 0 0 0) 67))
 have hKb:0 ≤ K ∧ K < 250:=by omega
 clear hB hK
 go_enter Tryz.func41,Tryz.ntmps41
 go_wp2_with fail
 refine (HG.out _ 0 K HB.out (by omega) (by omega)).mono ?_
 rintro e w1 ⟨rfl,rfl⟩
 go_wp2_with fail
 refine (HG.out _ 1 (K + 2) HB.out (by omega) (by omega)).mono ?_
 rintro e w1 ⟨rfl,rfl⟩
 go_wp2_with fail
 refine (HG.out _ 2 (K + 4) HB.out (by omega) (by omega)).mono ?_
 rintro e w1 ⟨rfl,rfl⟩
 go_wp2_with fail
 exact bodyPost_ret (results_row rfl _ _ _ _ _ _ _ rfl (At.new w 67 (dcells (hd z (4 * k)) (hd z (4 * k + 1)) (hd z (4 * k + 2)))) Tryz.underlying67 rfl (by kernel_rfl)) rfl ⟨rfl,(Below.refl _ _).alloc (Nat.le_refl _) _⟩
structure OrS (w:World) (G S I J O:Int) (W:World):Prop where
 s:At W w.heap.size 47 (scells G S I J O)
 bel:Below w.heap.size w W
theorem orphaned_any (G S I J O:Int) (hO:0 ≤ O ∧ O < 4294967296) (w:World) :
  Calls Tryz.prog 157 #[sval G S I J O] w fun e w' => e = .returned (.bool (decide (O ≤ nIn G S I J))) ∧ Below w.heap.size w w':=by
 have hA:At (w.alloc (.cells (scells G S I J O) 47)) w.heap.size 47 (scells G S I J O):=At.new _ _ _
 have hL:Below w.heap.size w (w.alloc (.cells (scells G S I J O) 47)):=(Below.refl _ _).alloc (Nat.le_refl _) _
 have hwr:O % 18446744073709551616 = O:=by omega
 have hb:=nIn_bd G S I J
 have HN:Hid (∀ W,Calls Tryz.prog 23 #[gval G S I J] W fun e w' => e = .returned (.int .i64 (nIn G S I J)) ∧ Below W.heap.size W w'):=fun W => geoInodes_any G S I J W
 generalize nIn G S I J = n at *
 have hwn:n % 18446744073709551616 = n:=by omega
 go_enter Tryz.func157,Tryz.ntmps157
 go_wp2_with fail
 have hkeep:Hid (∀ W W',OrS w G S I J O W → Below W.heap.size W W' → OrS w G S I J O W'):=fun W W' h hb => ⟨h.s.below hb h.s.lt,h.bel.trans (hb.mono h.bel.size)⟩
 refine wp_region_S (OrS w G S I J O) (by kernel_rfl) (by kernel_rfl) ⟨hA,hL.drew⟩ ?_
 clear hA hL
 intro hne
 have hc:∀ s:InW (OrS w G S I J O),s.W.cell? ⟨w.heap.size,4,none⟩ = some (.int .u32 O):=fun s => s.h.s.cell (i:=4) rfl
 first | go_big_quiet_skip | (go_big_quiet_want;go_big_quiet_op;go_big_quiet_on)
 first | go_big_quiet_skip | (go_big_quiet_want;go_big_quiet_op;go_big_quiet_on)
 first | go_big_quiet_skip | (go_big_quiet_want;go_big_quiet_op;go_big_quiet_on)
 first | go_big_quiet_skip | (go_big_quiet_want;go_big_quiet_op;go_big_quiet_on)
 refine q_load rfl 23 (.tmp 6) rfl w.heap.size 0 rfl (gcells G S I J).toList _ (fun W h j v hj => ?_) Tryz.underlying23 rfl (by kernel_rfl) ?_
 ·have hj4:j < 4:=(List.getElem?_eq_some_iff.1 hj).1
  refine h.s.cell (i:=0 + j) ?_
  rw [Nat.zero_add,← hj]
  obtain rfl | rfl | rfl | rfl:j = 0 ∨ j = 1 ∨ j = 2 ∨ j = 3:=by omega
  all_goals rfl
 refine wpQuiet_frame (by simp only [Act.put,List.setIfInBounds_toArray,List.set_cons_succ,List.set_cons_zero];exact rfl) ?_
 go_big_quiet_want
 go_big_quiet_op
 refine ⟨_,fun s => q_call s (fun W hW => (HN.out W).mono fun e w' h => ⟨h.1,hkeep.out W w' hW h.2⟩),?_⟩
 go_big_quiet_on
 repeat (first | go_big_quiet_skip | (go_big_quiet_want;go_big_quiet_op;go_big_quiet_on))
 refine wpQuiet_nil ?_
 intro w5 h5
 have hL5:Below w.heap.size w w5:=h5.out.bel
 clear h5 hne
 go_wp2_with fail
 go_ret
 exact ⟨rfl,hL5⟩
def supH (G S I J O:Int):Nat → Int:=upd2 (geoH (upd (upd (upd2 (fun _ => 0) 0 827216465) 2 1) 3 256) G S I J) 8 O
def supOk (G S I J O:Int):Bool:=mayG G S I J && decide (O ≤ nIn G S I J)
def supE (G S I J O:Int):Int:=if mayG G S I J then (if O ≤ nIn G S I J then 0 else 2) else 50
def supZ (G S I J O:Int):Nat → Int:=if supOk G S I J O then sealZ (hz (supH G S I J O)) else fun _ => 0
theorem At.geo {w:World} {g:Nat} {T:TypeId} {G S I J O:Int} (h:At w g T (scells G S I J O)):w.rangeAt g 0 (gcells G S I J).toList:=fun j v hj => by
 have hj4:j < 4:=(List.getElem?_eq_some_iff.1 hj).1
 refine h.cell (i:=0 + j) ?_
 rw [Nat.zero_add,← hj]
 obtain rfl | rfl | rfl | rfl:j = 0 ∨ j = 1 ∨ j = 2 ∨ j = 3:=by omega
 all_goals rfl
theorem wp_loadRange {P:Program} {w:World} {ops:Array Oper} {rest:List Oper} {o:Oper} {a:Act} {Q:Exit → Act → World → Prop} (hw:Region.wanted o (yielded ops a.tmps) = true) (T:TypeId) (p:Operand) (ho:o.op = .load T p)
  (g off:Nat) (cs:List Value) (d:TypeDesc) (hx:a.eval p = .pointer (some ⟨g,off,none⟩)) (hI:w.rangeAt g off cs) (hu:P.underlying T = some d) (hd:d.isRow = true) (hi:(P.info? T).map (·.size) = some cs.length)
  (h:wpList P ops Q rest (a.put o.dst (.agg cs.toArray)) w):wpList P ops Q (o :: rest) a w :=
 BigFrame.wpList_want hw fun _ hK => wp_load_mid T p ho g off hx cs d hI hu hd hi (hK _ _ h)
def df (B I D:Nat → Int) (i:Nat):List Value:=[.int .i64 (B i),.int .i64 (I i),.int .i64 (D i)]
theorem df_len (B I D:Nat → Int) (i:Nat):(df B I D i).length = 3:=rfl
theorem df_ne (B I D:Nat → Int) (i:Nat):df B I D i ≠ []:=by intro h;cases h
theorem df_one (B I D:Nat → Int) (i:Nat):∀ v ∈ df B I D i,v.oneCell' = true:=by
 intro v hv
 simp only [df,List.mem_cons,List.not_mem_nil,or_false] at hv
 rcases hv with rfl | rfl | rfl <;> rfl
def okD (da im b i d:Int):Bool:=decide (0 ≤ b ∧ b ≤ da ∧ 0 ≤ i ∧ i ≤ im ∧ 0 ≤ d ∧ d ≤ im - i)
theorem okD_iff (da im b i d:Int):okD da im b i d = true ↔ 0 ≤ b ∧ b ≤ da ∧ 0 ≤ i ∧ i ≤ im ∧ 0 ≤ d ∧ d ≤ im - i:=by unfold okD;exact decide_eq_true_iff
theorem okD_no {da im b i d:Int} (h:¬ (0 ≤ b ∧ b ≤ da ∧ 0 ≤ i ∧ i ≤ im ∧ 0 ≤ d ∧ d ≤ im - i)):okD da im b i d = false:=by unfold okD;exact decide_eq_false h
def allB (p:Nat → Bool):Nat → Bool
 | 0 => true
 | n + 1 => allB p n && p n
theorem allB_iff (p:Nat → Bool) (n:Nat):allB p n = true ↔ ∀ i,i < n → p i = true:=by
 induction n with
 | zero => simp [allB]
 | succ n ih =>
  unfold allB
  rw [Bool.and_eq_true,ih]
  constructor
  ·rintro ⟨h,g⟩ i hi
   by_cases e:i = n
   ·rw [e];exact g
   ·exact h i (by omega)
  ·intro h;exact ⟨fun i hi => h i (by omega),h n (by omega)⟩
theorem allB_no {p:Nat → Bool} {n j:Nat} (hj:j < n) (h:p j = false):allB p n = false:=by
 cases e:allB p n with
 | false => rfl
 | true => have:=(allB_iff p n).1 e j hj;rw [h] at this;cases this
def mayD (G S I J:Int) (n:Nat) (b i d:Nat → Int):Bool:=decide ((n:Int) = G) && allB (fun k => okD (nDa G S I J) I (b k) (i k) (d k)) n
structure MyS (w:World) (G S I J:Int) (a:Option Addr) (n:Nat) (f:Nat → List Value) (W:World):Prop where
 s:At W w.heap.size 23 (gcells G S I J)
 r:RRow W a 3 n f
 bel:Below w.heap.size w W
theorem MyS.below {w:World} {G S I J:Int} {a:Option Addr} {n:Nat} {f:Nat → List Value} {W W':World} (h:MyS w G S I J a n f W) (hf:f 0 ≠ []) (hb:Below W.heap.size W W'):MyS w G S I J a n f W' :=
 ⟨h.s.below hb h.s.lt,h.r.below hf hb,h.bel.trans (hb.mono h.bel.size)⟩
theorem info_desc:(Tryz.prog.info? 67).map (·.size) = some 3:=by kernel_rfl
theorem superMay_any (G S I J:Int) (hm:mayG G S I J = true) (a:Option Addr) (n cap:Nat) (b i d:Nat → Int) (hn:(n:Int) ≤ 9223372036854775807) (w:World) (hr:RRow w a 3 n (df b i d)) :
  Calls Tryz.prog 43 #[gval G S I J,.slice a n cap] w fun e w' => e = .returned (.bool (mayD G S I J n b i d)) ∧ Below w.heap.size w w':=by
 have st0:MyS w G S I J a n (df b i d) (w.alloc (.cells (gcells G S I J) 23)):=⟨At.new _ _ _,hr.below (df_ne _ _ _ _) ((Below.refl _ _).alloc (Nat.le_refl _) _),(Below.refl _ _).alloc (Nat.le_refl _) _⟩
 have hI:4 ≤ I ∧ I ≤ 64:=by
  obtain ⟨h1,h2,h3,h4,h5,h6,h7,h8,h9,h10,h11⟩:=(mayG_iff G S I J).1 hm
  exact ⟨h5,h6⟩
 have c0:(w.alloc (.cells #[.int .i64 G,.int .i64 S,.int .i64 I,.int .i64 J] 23)).cell? ⟨w.heap.size,0,none⟩ = some (.int .i64 G):=st0.s.cell (i:=0) rfl
 have hgeo:=st0.s
 have ST0:=Lib.hid st0
 clear st0 hr hm
 go_enter Tryz.func43,Tryz.ntmps43
 by_cases hg:(n:Int) = G
 rotate_left
 ·have hg':((n:Int) != G) = true:=by simpa using hg
  have HN:Hid (mayD G S I J n b i d = false):=by show _ = _;unfold mayD;simp [hg]
  clear hg
  go_wp2_with fail
  go_ret
  exact ⟨by rw [HN.out];rfl,ST0.out.bel⟩
 have hg':((n:Int) != G) = false:=by simpa using hg
 have HD:Hid (mayD G S I J n b i d = allB (fun k => okD (nDa G S I J) I (b k) (i k) (d k)) n):=by show _ = _;unfold mayD;simp [hg]
 clear hg
 go_wp2_with (first | (refine wp_loadAtG rfl 23 _ rfl _ _ _ rfl hgeo Tryz.underlying23 rfl (by kernel_rfl) ?_))
 refine (geoData_any G S I J _).mono ?_
 rintro e w1 ⟨rfl,hb1⟩
 have st1:=ST0.out.below (df_ne _ _ _ _) hb1
 clear ST0 hgeo c0 hb1 hg'
 have hda:=nDa_bd G S I J
 generalize nDa G S I J = da at *
 go_wp2_with fail
 go_loopw [17] (fun u wr => ∃ k:Nat,k ≤ n ∧ u = .int .i64 (k:Int) ∧ Hid (allB (fun k => okD da I (b k) (i k) (d k)) k = true) ∧ MyS w G S I J a n (df b i d) wr) (fun u _ => n - (intOf u).toNat)
 case atStart => exact ⟨0,by omega,rfl,rfl,st1⟩
 case round =>
  clear st1
  obtain ⟨k,hk,rfl,HALL,st⟩:=hrel
  by_cases hlt:k < n
  ·rcases st.r with h0 | ⟨bb,off,rfl,hsg⟩
   ·omega
   have r0:wr.cell? ⟨bb,off + k * 3,none⟩ = some (.int .i64 (b k)):=hsg k hlt 0 _ rfl
   have r1:wr.cell? ⟨bb,off + k * 3 + 1,none⟩ = some (.int .i64 (i k)):=hsg k hlt 1 _ rfl
   have r2:wr.cell? ⟨bb,off + k * 3 + 2,none⟩ = some (.int .i64 (d k)):=hsg k hlt 2 _ rfl
   have hA:=At.new wr 67 (dcells (b k) (i k) (d k))
   have d0:(wr.alloc (.cells #[.int .i64 (b k),.int .i64 (i k),.int .i64 (d k)] 67)).cell? ⟨wr.heap.size,0,none⟩ = some (.int .i64 (b k)):=hA.cell (i:=0) rfl
   have d1:(wr.alloc (.cells #[.int .i64 (b k),.int .i64 (i k),.int .i64 (d k)] 67)).cell? ⟨wr.heap.size,1,none⟩ = some (.int .i64 (i k)):=hA.cell (i:=1) rfl
   have d2:(wr.alloc (.cells #[.int .i64 (b k),.int .i64 (i k),.int .i64 (d k)] 67)).cell? ⟨wr.heap.size,2,none⟩ = some (.int .i64 (d k)):=hA.cell (i:=2) rfl
   have g2:(wr.alloc (.cells #[.int .i64 (b k),.int .i64 (i k),.int .i64 (d k)] 67)).cell? ⟨w.heap.size,2,none⟩ = some (.int .i64 I):=(st.s.alloc _).cell (i:=2) rfl
   have ST:=Lib.hid (st.below (df_ne _ _ _ _) ((Below.refl _ _).alloc (Nat.le_refl _) (.cells (dcells (b k) (i k) (d k)) 67)))
   have HK:Hid (∀ c,okD da I (b k) (i k) (d k) = c → (c = true → allB (fun k => okD da I (b k) (i k) (d k)) (k + 1) = true) ∧ (c = false → allB (fun k => okD da I (b k) (i k) (d k)) n = false)):=fun c hc =>
    ⟨fun h => by show (allB _ k && okD da I (b k) (i k) (d k)) = true;rw [HALL.out,hc,h];rfl,fun h => allB_no hlt (by rw [hc,h])⟩
   clear hsg hA st HALL
   generalize b k = x at *
   generalize i k = y at *
   generalize d k = v at *
   have hnl:(n:Int) ≤ 9223372036854775807:=hn
   by_cases h1:0 ≤ x
   rotate_left
   ·have HF:Hid (allB (fun k => okD da I (b k) (i k) (d k)) n = false):=(HK.out false (okD_no fun h => h1 (h.1))).2 rfl
    have q1:decide (x < 0) = true:=by rw [decide_eq_true_eq];omega
    go_wp2_with fail
    go_ret
    exact ⟨by rw [HD.out,HF.out];rfl,ST.out.bel⟩
   have q1:decide (x < 0) = false:=by rw [decide_eq_false_iff_not];omega
   by_cases h2:x ≤ da
   rotate_left
   ·have HF:Hid (allB (fun k => okD da I (b k) (i k) (d k)) n = false):=(HK.out false (okD_no fun h => h2 (h.2.1))).2 rfl
    have q2:decide (da < x) = true:=by rw [decide_eq_true_eq];omega
    go_wp2_with fail
    go_ret
    exact ⟨by rw [HD.out,HF.out];rfl,ST.out.bel⟩
   have q2:decide (da < x) = false:=by rw [decide_eq_false_iff_not];omega
   by_cases h3:0 ≤ y
   rotate_left
   ·have HF:Hid (allB (fun k => okD da I (b k) (i k) (d k)) n = false):=(HK.out false (okD_no fun h => h3 (h.2.2.1))).2 rfl
    have q3:decide (y < 0) = true:=by rw [decide_eq_true_eq];omega
    go_wp2_with fail
    go_ret
    exact ⟨by rw [HD.out,HF.out];rfl,ST.out.bel⟩
   have q3:decide (y < 0) = false:=by rw [decide_eq_false_iff_not];omega
   by_cases h4:y ≤ I
   rotate_left
   ·have HF:Hid (allB (fun k => okD da I (b k) (i k) (d k)) n = false):=(HK.out false (okD_no fun h => h4 (h.2.2.2.1))).2 rfl
    have q4:decide (I < y) = true:=by rw [decide_eq_true_eq];omega
    go_wp2_with fail
    go_ret
    exact ⟨by rw [HD.out,HF.out];rfl,ST.out.bel⟩
   have q4:decide (I < y) = false:=by rw [decide_eq_false_iff_not];omega
   by_cases h5:0 ≤ v
   rotate_left
   ·have HF:Hid (allB (fun k => okD da I (b k) (i k) (d k)) n = false):=(HK.out false (okD_no fun h => h5 (h.2.2.2.2.1))).2 rfl
    have q5:decide (v < 0) = true:=by rw [decide_eq_true_eq];omega
    go_wp2_with fail
    go_ret
    exact ⟨by rw [HD.out,HF.out];rfl,ST.out.bel⟩
   have q5:decide (v < 0) = false:=by rw [decide_eq_false_iff_not];omega
   by_cases h6:v ≤ I - y
   rotate_left
   ·have HF:Hid (allB (fun k => okD da I (b k) (i k) (d k)) n = false):=(HK.out false (okD_no fun h => h6 (h.2.2.2.2.2))).2 rfl
    have q6:decide (I - y < v) = true:=by rw [decide_eq_true_eq];omega
    go_wp2_with fail
    go_ret
    exact ⟨by rw [HD.out,HF.out];rfl,ST.out.bel⟩
   have q6:decide (I - y < v) = false:=by rw [decide_eq_false_iff_not];omega
   have HY:Hid (allB (fun k => okD da I (b k) (i k) (d k)) (k + 1) = true):=(HK.out true ((okD_iff _ _ _ _ _).2 ⟨h1,h2,h3,h4,h5,h6⟩)).1 rfl
   go_wp2_with fail
   go_roundw
   case rel => first | exact ⟨k + 1,by omega,by go_num,HY,ST.out⟩ | exact ⟨k + 1,by omega,rfl,HY,ST.out⟩
   case measure => simp [intOf];omega
  ·obtain rfl:k = n:=by omega
   go_wp2_with fail
   go_ret
   exact ⟨by rw [HD.out,HALL.out];rfl,st.bel⟩
theorem RArr.cellset {W:World} {g:Nat} {T:TypeId} {m n:Nat} {f:Nat → List Value} (h:RArr W g T m n f) {k j:Nat} (hk:k < n) (hj:j < m) (hf:∀ i,(f i).length = m) (v:Value):RArr (W.setCell ⟨g,k * m + j,none⟩ v) g T m n (fun i => if i = k then (f i).set j v else f i):=by
 have ho:=Only.setCell W ⟨g,k * m + j,none⟩ v
 obtain ⟨cs,h1,h2⟩:=h.blk
 obtain ⟨c',hc1,hc2⟩:=ho.shape _ _ _ h1
 refine ⟨⟨c',hc2,by rw [hc1,h2]⟩,fun i hi p u hp => ?_⟩
 rw [Nat.zero_add]
 obtain ⟨x,hx⟩:∃ x,W.cell? ⟨g,k * m + j,none⟩ = some x:=by
  have:=h.seg k hk j _ (List.getElem?_eq_getElem (by rw [hf];exact hj))
  rw [Nat.zero_add] at this
  exact ⟨_,this⟩
 have hpm:p < m:=by
  have:=(List.getElem?_eq_some_iff.1 hp).1
  by_cases e:i = k
  ·rw [if_pos e,List.length_set,hf] at this;exact this
  ·rw [if_neg e,hf] at this;exact this
 by_cases e:i = k
 ·subst e
  rw [if_pos rfl] at hp
  by_cases e2:p = j
  ·subst e2
   rw [List.getElem?_set_self (by rw [hf];exact hpm)] at hp
   cases hp
   exact World.cell?_setCell_same _ _ _ hx
  ·rw [List.getElem?_set_ne (fun h => e2 h.symm)] at hp
   rw [World.cell?_setCell_other _ _ _ _ (by intro h;injection h with _ h _;omega)]
   have:=h.seg i hi p u hp
   rwa [Nat.zero_add] at this
 ·rw [if_neg e] at hp
  have hne:k * m + j ≠ i * m + p:=by
   rcases Nat.lt_or_gt_of_ne e with h' | h'
   ·have:(i + 1) * m ≤ k * m:=Nat.mul_le_mul_right m h'
    rw [Nat.succ_mul] at this;omega
   ·have:(k + 1) * m ≤ i * m:=Nat.mul_le_mul_right m h'
    rw [Nat.succ_mul] at this;omega
  rw [World.cell?_setCell_other _ _ _ _ (by intro h;injection h with _ h _;exact hne h)]
  have:=h.seg i hi p u hp
  rwa [Nat.zero_add] at this
theorem wp_storeMid {P:Program} {ops:Array Oper} {rest:List Oper} {op:Oper} {a:Act} {w:World} {Q:Exit → Act → World → Prop} (hgd:op.guard = none) (ty:TypeId) (x y:Operand) (ho:op.op = .store ty x y)
  (b o:Nat) (cs:List Value) (hx:a.eval x = .pointer (some ⟨b,o,none⟩)) (hy:a.eval y = .agg cs.toArray)
  (ht:w.there b o cs.length) (hi:(P.info? ty).map (·.size) = some cs.length) (h1:∀ v ∈ cs,v.oneCell' = true)
  (h:∀ w',Hid (w' = w.setCells b o cs) → wpList P ops Q rest (a.put op.dst undef) w'):wpList P ops Q (op :: rest) a w :=
 wpList_store_mid hgd ty x y ho b o cs.toArray hx hy (by simpa using ht) (by simpa using hi) (by rw [List.all_toArray,List.all_eq_true];exact h1) (h _ (Lib.hid rfl))
theorem wpList_slice1 {P:Program} {w:World} {ops:Array Oper} {rest:List Oper} {o:Oper} {a:Act} {Q:Exit → Act → World → Prop} (hgd:o.guard = none) (t:TypeId) (n i:Nat) (x:Operand) (ho:o.op = .buildSlice t n #[(i,x)])
  (u:Value) (hx:a.eval x = u) (v:Value) (w':World) (hr:(Instr.buildSlice t n #[(i,u)]).run P w = .ok v w') (h:wpList P ops Q rest (a.put o.dst v) w'):wpList P ops Q (o :: rest) a w :=
 wpList_plain hgd fun _ hK => by
  unfold Oper.wp execOp
  subst hx
  simp only [ho,Sem.run_bind,List.map_toArray,List.map_cons,List.map_nil,hr,Result.andThen_ok,Sem.run_pure]
  exact hK _ _ h
def headOk (s t:Int):Bool:=seqB s && decide (0 ≤ t ∧ t ≤ 255)
def headZ (s t:Int):Nat → Int:=if headOk s t then wz (jw 4 s t nz) else fun _ => 0
def errOf (b:Bool) (e:Int):Int:=if b then 0 else e
theorem wp_loadMid {P:Program} {w:World} {ops:Array Oper} {rest:List Oper} {o:Oper} {a:Act} {Q:Exit → Act → World → Prop} (hw:Region.wanted o (yielded ops a.tmps) = true) (T:TypeId) (p:Operand) (ho:o.op = .load T p)
  (g off:Nat) (cs:List Value) (d:TypeDesc) (hx:a.eval p = .pointer (some ⟨g,off,none⟩)) (hI:w.rangeAt g off cs) (hu:P.underlying T = some d) (hd:d.isRow = true) (hi:(P.info? T).map (·.size) = some cs.length)
  (h:wpList P ops Q rest (a.put o.dst (.agg cs.toArray)) w):wpList P ops Q (o :: rest) a w :=
 BigFrame.wpList_want hw fun _ hK => wp_load_mid T p ho g off hx cs d hI hu hd hi (hK _ _ h)
def bit (b:Bool):Int:=if b then 1 else 0
def NumSeg (w:World) (b off n:Nat) (m:Nat → Int):Prop:=∀ i,i < n → w.cell? ⟨b,off + i,none⟩ = some (.int .u32 (m i))
def NumRow (w:World) (a:Option Addr) (n:Nat) (m:Nat → Int):Prop:=n = 0 ∨ ∃ b off,a = some ⟨b,off,none⟩ ∧ NumSeg w b off n m
theorem NumSeg.below {w w':World} {b off n:Nat} {m:Nat → Int} (h:NumSeg w b off n m) {B:Nat} (hb:Below B w w') (hB:b < B):NumSeg w' b off n m :=
 fun i hi => (hb.cell (p:=⟨b,off + i,none⟩) hB).trans (h i hi)
theorem NumSeg.lt {w:World} {b off n:Nat} {m:Nat → Int} (h:NumSeg w b off n m) (hn:0 < n):b < w.heap.size:=World.block_lt_of_cell? w _ (h 0 hn)
theorem NumSeg.only {w w':World} {b off n g:Nat} {m:Nat → Int} (h:NumSeg w b off n m) (hb:Only g w w') (hg:b ≠ g):NumSeg w' b off n m :=
 fun i hi => (hb.cell (p:=⟨b,off + i,none⟩) hg).trans (h i hi)
theorem NumRow.below {w w':World} {a:Option Addr} {n:Nat} {m:Nat → Int} (h:NumRow w a n m) (hb:Below w.heap.size w w'):NumRow w' a n m:=by
 rcases h with h | ⟨b,off,rfl,h⟩
 ·exact .inl h
 ·by_cases h0:n = 0
  ·exact .inl h0
  ·exact .inr ⟨b,off,rfl,h.below hb (h.lt (by omega))⟩
def numR (m:Nat → Int) (k:Nat) (j:Nat):Int:=if j < k then m j else 0
theorem own_form {W:World} {base k:Nat} {e:TypeId} {size:Nat} {v:Value} {xs:List Value} (h:W.ownsRow base e size v (k + 1) xs):∃ g cap,v = .slice (some ⟨g,0,none⟩) (k + 1) cap:=by
 rcases h.2 with ⟨_,h0⟩ | ⟨g',cap',cur,hv,_⟩
 ·omega
 ·exact ⟨g',cap',hv⟩
theorem NumRow.block {w:World} {a:Option Addr} {n:Nat} {m:Nat → Int} (h:NumRow w a n m) (hn:0 < n):∀ x,a = some x → x.block < w.heap.size:=by
 rcases h with h | ⟨b,off,rfl,h⟩
 ·omega
 ·intro x hx;cases hx;exact h.lt hn
end Go.Proofs.YtphamecphmbipaaGreatDoor

namespace Go.Proofs.YtphamecphmbipaaGreatDoor
open Go.RowKit
def sizePk (c r:Int):Int :=
 if c < 0 ∨ r < 0 ∨ 2048 < c ∨ 2048 < r ∨ (c = 0 ∧ r = 0) then 0 else c + (c + 29) / 30 + (r + 59) / 60 + 1
end Go.Proofs.YtphamecphmbipaaGreatDoor

namespace Go.Proofs.YtphamecphmbipaaGreatDoor
open Go.RowKit
set_option linter.unusedVariables false
structure Tr where
 s:Int
 n:Nat
 cb:Nat → Int
 cd:Nat → Nat → Int
 m:Nat
 rv:Nat → Int
structure Tr.Ok (t:Tr):Prop where
 s:0 ≤ t.s ∧ t.s < 4294967296
 cb:∀ i,-9223372036854775808 ≤ t.cb i ∧ t.cb i ≤ 9223372036854775807
 cd:∀ i,Byt (t.cd i)
 rv:∀ i,-9223372036854775808 ≤ t.rv i ∧ t.rv i ≤ 9223372036854775807
 n:(t.n:Int) ≤ 9223372036854775807
 m:(t.m:Int) ≤ 9223372036854775807
 cb0:∀ i,t.n ≤ i → t.cb i = 0
 rv0:∀ i,t.m ≤ i → t.rv i = 0
def riseT (b:Nat → Int):Nat → Bool
 | 0 => true
 | i + 1 => riseT b i && (decide ((if i = 0 then -1 else b (i - 1)) < b i) && decide (b i < 2048))
def mayT (s:Int) (n:Nat) (cb:Nat → Int) (m:Nat) (rv:Nat → Int):Bool:=seqB s && (decide (0 < n + m) && (riseT cb n && riseT rv m))
def Tr.may (t:Tr):Bool:=mayT t.s t.n t.cb t.m t.rv
def dN (n:Nat):Nat:=n + (n + 29) / 30
def rN (m:Nat):Nat:=(m + 59) / 60
def Tr.c (t:Tr):Nat:=dN t.n + rN t.m
def Tr.size (t:Tr):Int:=sizePk t.n t.m
def bkF (B:Nat → Nat → Int) (i:Nat):List Value:=Ks .u8 256 (B i)
def inF (b:Nat → Int) (i:Nat):List Value:=[.int .i64 (b i)]
theorem bkF_len (B:Nat → Nat → Int) (i:Nat):(bkF B i).length = 256:=by simp [bkF,Ks]
theorem Ks_oneL (k:IntKind) (n:Nat) (z:Nat → Int):∀ v ∈ Ks k n z,v.oneCell' = true:=by
 intro v hv
 unfold Ks at hv
 obtain ⟨i,_,rfl⟩:=List.mem_map.1 hv
 rfl
section
variable {F:Fence} {n:Nat} {P:Program}
end
end Go.Proofs.YtphamecphmbipaaGreatDoor

namespace Go.Proofs.YtphamecphmbipaaGreatDoor
open Go.RowKit Go.Shelf
set_option linter.unusedVariables false
attribute [local go_sem] Oper.semAt_some
end Go.Proofs.YtphamecphmbipaaGreatDoor
