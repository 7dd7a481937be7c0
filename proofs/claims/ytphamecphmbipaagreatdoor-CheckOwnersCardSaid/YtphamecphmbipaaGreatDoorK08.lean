/- Texts of this claim, merged by a program (a claim may have 60 files): Jb1, U6a, AtN, Jb2, Chain, AtM, Jb3, Jb4, Jb5, Jb6, Jb7, Same9, Jb8, Jb9, Sizes, Pk0, RangeK, Pk5. -/
import Derived.Test.YtphamecphmbipaaGreatDoorK02
import Derived.Test.YtphamecphmbipaaGreatDoorK04
import Derived.Test.YtphamecphmbipaaGreatDoorK03
import Derived.Test.YtphamecphmbipaaGreatDoorK07
import Derived.Test.YtphamecphmbipaaGreatDoorK06
import Derived.Deep.MidRow
import Derived.Test.YtphamecphmbipaaGreatDoorK05
import Derived.Laws.OwnMore
import Derived.Test.YtphamecphmbipaaGreatDoorRows
import Derived.Test.YtphamecphmbipaaGreatDoorK01
import Derived.WalkKit
import Derived.ProofKit
import Derived.OpenShut
import Derived.Outline
import Derived.Lib.Hide
import Derived.Shelf.Abstract
import Derived.TacticsInMore
import Derived.LoopNIn
import Derived.LoopIn
namespace Go.Proofs.YtphamecphmbipaaGreatDoor
open Go.RowKit
set_option linter.unusedVariables false
theorem results_row {P:Program} {fn:Func} {p:Tmp} {ty:TypeId} (h:fn.results = #[.cell p ty]) (tmps:Array Value) (w:World) (g:Nat) (t:TypeId) (cs:Array Value) (fr:Nat × Nat) (d:TypeDesc)
  (hp:tmps.getD p undef = .pointer (some ⟨g,0,none⟩)) (hg:w.heap[g]? = some (.cells cs t fr))
  (hu:P.underlying ty = some d) (hd:(match d with | .struct _ | .array _ _ => true | _ => false) = true) (hi:(P.info? ty).map (·.size) = some cs.size) :
  (results fn tmps).run P w = .ok (.agg cs) w:=by
 have hp':tmps[p]?.getD undef = .pointer (some ⟨g,0,none⟩):=by simpa using hp
 simp [results,h,hp',asAddr,run_loadVar_row w g t ty cs fr d hg hu hd hi]
theorem results_blk {fn:Func} {p:Tmp} (h:fn.results = #[.cell p 32]) (tmps:Array Value) (w:World) (g:Nat) (z:Nat → Int)
  (hp:tmps.getD p undef = .pointer (some ⟨g,0,none⟩)) (hg:Blk w g 32 256 z):(results fn tmps).run Tryz.prog w = .ok (bval z) w :=
 results_row h tmps w g 32 (Ks .u8 256 z).toArray (0,0) _ hp hg Tryz.underlying32 rfl (info_block' _)
theorem results_blk2 {fn:Func} {p u:Tmp} (h:fn.results = #[.cell p 32,.tmp u]) (tmps:Array Value) (w:World) (g:Nat) (z:Nat → Int)
  (hp:tmps.getD p undef = .pointer (some ⟨g,0,none⟩)) (hg:Blk w g 32 256 z):(results fn tmps).run Tryz.prog w = .ok (.tuple #[bval z,tmps.getD u undef]) w :=
 results_row_tmp h tmps w g 32 (Ks .u8 256 z).toArray (0,0) _ hp hg Tryz.underlying32 rfl (info_block' _)
theorem bval_congr {z y:Nat → Int} (h:∀ i,i < 256 → z i = y i):bval z = bval y:=by unfold bval;rw [Ks_congr h]
theorem rSeq_any (s:Int) (w:World):Calls Tryz.prog 100 #[.int .u32 s] w fun e w' => e = .returned (.bool (seqB s)) ∧ w = w':=by
 by_cases h1:1 ≤ s
 ·by_cases h2:s ≤ 2147483648
  ·have hd:Hid (seqB s = true):=by show _ = _;simp [seqB,h1,h2]
   go_enter Tryz.func100,Tryz.ntmps100
   go_wp2
   go_ret
   exact ⟨ret_bool hd.out.symm,rfl⟩
  ·have hd:Hid (seqB s = false):=by show _ = _;simp [seqB,h1,h2]
   go_enter Tryz.func100,Tryz.ntmps100
   go_wp2
   go_ret
   exact ⟨ret_bool hd.out.symm,rfl⟩
 ·have hd:Hid (seqB s = false):=by show _ = _;simp [seqB,h1]
  go_enter Tryz.func100,Tryz.ntmps100
  go_wp2
  go_ret
  exact ⟨ret_bool hd.out.symm,rfl⟩
theorem zero_page (W:World):(zeroValue 108).run Tryz.prog W = .ok (.agg (Ks .u8 256 (fun _ => 0)).toArray) W:=by kernel_rfl
theorem info_page:(Tryz.prog.info? 108).map (·.size) = some 256:=by kernel_rfl
theorem info_page' (z:Nat → Int):(Tryz.prog.info? 108).map (·.size) = some (Ks .u8 256 z).toArray.size:=by rw [Ks_size];exact info_page
abbrev getFn (g:Nat):Value:=.func (.func 42) #[.pointer (some ⟨g,0,none⟩)] #[]
theorem pageGet4_any (g:Nat) (z:Nat → Int) (hzb:Byt z) (k:Nat) (K:Int) (hK:K = (k:Int)) (hk:k + 4 ≤ 256) (w:World) {T:TypeId} (hB:Blk w g T 256 z) :
  Calls Tryz.prog 87 #[.pointer (some ⟨g,0,none⟩),.int .i64 K] w fun e w' => e = .returned (.int .u32 (g32 z k)) ∧ w = w':=by
 subst hK
 have hsa:=fun W => run_sliceBlkAll g 0 W
 have hgt:=get32_yes g 0 256 256 (k:Int) z w (by omega) (by omega) (by omega) hB.seg hzb
 rw [Int.toNat_natCast] at hgt
 have HG:=Lib.hid hgt
 clear hgt
 go_enter Tryz.func87,Tryz.ntmps87
 go_wp2_with fail
 refine HG.out.mono ?_
 rintro e w1 ⟨rfl,rfl⟩
 go_wp2_with fail
 go_ret
 exact ⟨rfl,rfl⟩
theorem pageGet_any (g:Nat) (z:Nat → Int) (hzb:Byt z) (k:Nat) (K:Int) (hK:K = 2 * (k:Int)) (hk:k < 128) (w:World) {T:TypeId} (hB:Blk w g T 256 z) :
  Calls Tryz.prog 42 #[.pointer (some ⟨g,0,none⟩),.int .i64 K] w fun e w' => e = .returned (.int .i64 (hd z k)) ∧ w = w':=by
 have hsa:=fun W => run_sliceBlkAll g 0 W
 have hgt:=get16_yes g 0 256 256 K z w (by omega) (by omega) (by omega) hB.seg hzb
 rw [show K.toNat = 2 * k by omega] at hgt
 have hb:=g16_bd hzb (2 * k)
 have HG:=Lib.hid hgt
 have HD:Hid (hd z k = g16 z (2 * k)):=rfl
 clear hgt hK
 generalize g16 z (2 * k) = x at *
 go_enter Tryz.func42,Tryz.ntmps42
 go_wp2_with fail
 refine HG.out.mono ?_
 rintro e w1 ⟨rfl,rfl⟩
 go_wp2_with fail
 go_ret
 exact ⟨by rw [HD.out];rfl,rfl⟩
theorem pageTotal_any (g:Nat) (z:Nat → Int) (hzb:Byt z) (w:World) {T:TypeId} (hB:Blk w g T 256 z) (hT:Tab w) :
  Calls Tryz.prog 88 #[.pointer (some ⟨g,0,none⟩)] w fun e w' => e = .returned (.int .u32 (crcZ z 252)) ∧ Below w.heap.size w w':=by
 have hsa:=fun W => run_sliceBlk g 0 0 252 0 252 rfl rfl (by omega) (by omega) (by omega) W
 have HT:=Lib.hid hT
 clear hT
 go_enter Tryz.func88,Tryz.ntmps88
 go_wp2_with fail
 have hP:Pieces (w.alloc (.cells #[.slice (some ⟨g,0,none⟩) 252 256] 119)) (some ⟨w.heap.size,0,none⟩) 1 (fun _ => 252) (fun _ => z):=⟨fun k hk => by
  obtain rfl:k = 0:=by omega
  exact ⟨_,_,rfl,_,_,cell_of_heap (heap_alloc_new w _) rfl,.inr ⟨g,0,rfl,((hB.alloc _).seg.take 252 (by omega))⟩,by omega⟩⟩
 refine (crcSum_any _ 1 1 _ _ _ (by omega) hP (fun _ => hzb) (HT.out.alloc _)).mono ?_
 rintro e w1 ⟨rfl,rfl⟩
 clear hP
 go_wp2_with fail
 go_ret
 exact ⟨rfl,(Below.refl _ _).alloc (Nat.le_refl _) _⟩
theorem At.grown {w w':World} {g:Nat} {T:TypeId} {cs:Array Value} {row:Option Nat} (h:At w g T cs) (hb:w.grownBy w' row) (hg:some g ≠ row):At w' g T cs:=(hb.block g h.lt hg).trans h
theorem pageSealed_any (g:Nat) (z:Nat → Int) (hzb:Byt z) (w:World) {T:TypeId} (hB:Blk w g T 256 z) (hT:Tab w) :
  Calls Tryz.prog 39 #[.pointer (some ⟨g,0,none⟩)] w fun e w' => e = .returned (.bool (sumB z)) ∧ Below w.heap.size w w':=by
 have HN:Hid (sumB z = (g32 z 252 == crcZ z 252)):=rfl
 go_enter Tryz.func39,Tryz.ntmps39
 go_wp2_with fail
 refine (pageGet4_any g z hzb 252 252 rfl (by omega) w hB).mono ?_
 rintro e w0 ⟨rfl,rfl⟩
 go_wp2_with fail
 refine (pageTotal_any g z hzb w hB hT).mono ?_
 rintro e w1 ⟨rfl,hb1⟩
 go_wp2_with fail
 go_ret
 exact ⟨by rw [HN.out];rfl,hb1⟩
theorem pageNoughts_any (g:Nat) (z:Nat → Int) (lo hi:Nat) (L H:Int) (hL:L = (lo:Int)) (hH:H = (hi:Int)) (h1:lo ≤ hi) (h2:hi ≤ 256) (h3:lo < 256) (w:World) {T:TypeId} (hB:Blk w g T 256 z) :
  Calls Tryz.prog 40 #[.pointer (some ⟨g,0,none⟩),.int .i64 L,.int .i64 H] w fun e w' => e = .returned (.bool (allZ (fun i => z (lo + i)) (hi - lo))) ∧ w = w':=by
 have hsa:=fun W => run_sliceBlk g 0 lo hi L H hL hH h1 h2 h3 W
 have HZ:=Lib.hid (zero_any (some ⟨g,0 + lo,none⟩) (hi - lo) (256 - lo) (fun i => z (lo + i)) w (by omega) (.inr ⟨g,0 + lo,rfl,hB.seg.sub lo (hi - lo) (by omega)⟩))
 clear hL hH hB
 rw [Nat.zero_add] at hsa HZ
 go_enter Tryz.func40,Tryz.ntmps40
 go_wp2_with fail
 refine HZ.out.mono ?_
 rintro e w1 ⟨rfl,rfl⟩
 go_wp2_with fail
 go_ret
 exact ⟨rfl,rfl⟩
def geoH (l:Nat → Int) (G S I J:Int):Nat → Int:=upd (upd (upd (upd l 4 G) 5 S) 6 I) 7 J
theorem geo_small {G S I J:Int} (h:mayG G S I J = true):0 ≤ G ∧ G ≤ 65535 ∧ 0 ≤ S ∧ S ≤ 65535 ∧ 0 ≤ I ∧ I ≤ 65535 ∧ 0 ≤ J ∧ J ≤ 65535:=by
 obtain ⟨h1,h2,h3,h4,h5,h6,h7,h8,h9,h10,h11⟩:=(mayG_iff G S I J).1 h
 omega
theorem RArr.cellset {W:World} {g:Nat} {T:TypeId} {m n:Nat} {f:Nat → List Value} (h:RArr W g T m n f) {k j:Nat} (hk:k < n) (hj:j < m) (hf:∀ i,(f i).length = m) (v:Value):RArr (W.setCell ⟨g,k * m + j,none⟩ v) g T m n (fun i => if i = k then (f i).set j v else f i):=by
 have ho:=Only.setCell W ⟨g,k * m + j,none⟩ v
 obtain ⟨cs,h1,h2⟩:=h.blk
 obtain ⟨c',hc1,hc2⟩:=ho.shape _ _ _ h1
 refine ⟨⟨c',hc2,by rw [hc1,h2]⟩,fun i hi p u hp => ?_⟩
 rw [Nat.zero_add]
 obtain ⟨x,hx⟩:∃ x,W.cell? ⟨g,k * m + j,none⟩ = some x:=by
  have:=h.seg k hk j _ (List.getElem?_eq_getElem (by rw [hf];exact hj))
  rw [Nat.zero_add] at this
  exact ⟨_,this⟩
 have hpm:p < m:=by
  have:=(List.getElem?_eq_some_iff.1 hp).1
  by_cases e:i = k
  ·rw [if_pos e,List.length_set,hf] at this;exact this
  ·rw [if_neg e,hf] at this;exact this
 by_cases e:i = k
 ·subst e
  rw [if_pos rfl] at hp
  by_cases e2:p = j
  ·subst e2
   rw [List.getElem?_set_self (by rw [hf];exact hpm)] at hp
   cases hp
   exact World.cell?_setCell_same _ _ _ hx
  ·rw [List.getElem?_set_ne (fun h => e2 h.symm)] at hp
   rw [World.cell?_setCell_other _ _ _ _ (by intro h;injection h with _ h _;omega)]
   have:=h.seg i hi p u hp
   rwa [Nat.zero_add] at this
 ·rw [if_neg e] at hp
  have hne:k * m + j ≠ i * m + p:=by
   rcases Nat.lt_or_gt_of_ne e with h' | h'
   ·have:(i + 1) * m ≤ k * m:=Nat.mul_le_mul_right m h'
    rw [Nat.succ_mul] at this;omega
   ·have:(k + 1) * m ≤ i * m:=Nat.mul_le_mul_right m h'
    rw [Nat.succ_mul] at this;omega
  rw [World.cell?_setCell_other _ _ _ _ (by intro h;injection h with _ h _;exact hne h)]
  have:=h.seg i hi p u hp
  rwa [Nat.zero_add] at this
theorem wp_storeMid {P:Program} {ops:Array Oper} {rest:List Oper} {op:Oper} {a:Act} {w:World} {Q:Exit → Act → World → Prop} (hgd:op.guard = none) (ty:TypeId) (x y:Operand) (ho:op.op = .store ty x y)
  (b o:Nat) (cs:List Value) (hx:a.eval x = .pointer (some ⟨b,o,none⟩)) (hy:a.eval y = .agg cs.toArray)
  (ht:w.there b o cs.length) (hi:(P.info? ty).map (·.size) = some cs.length) (h1:∀ v ∈ cs,v.oneCell' = true)
  (h:∀ w',Hid (w' = w.setCells b o cs) → wpList P ops Q rest (a.put op.dst undef) w'):wpList P ops Q (op :: rest) a w :=
 wpList_store_mid hgd ty x y ho b o cs.toArray hx hy (by simpa using ht) (by simpa using hi) (by rw [List.all_toArray,List.all_eq_true];exact h1) (h _ (Lib.hid rfl))
theorem wpList_slice1 {P:Program} {w:World} {ops:Array Oper} {rest:List Oper} {o:Oper} {a:Act} {Q:Exit → Act → World → Prop} (hgd:o.guard = none) (t:TypeId) (n i:Nat) (x:Operand) (ho:o.op = .buildSlice t n #[(i,x)])
  (u:Value) (hx:a.eval x = u) (v:Value) (w':World) (hr:(Instr.buildSlice t n #[(i,u)]).run P w = .ok v w') (h:wpList P ops Q rest (a.put o.dst v) w'):wpList P ops Q (o :: rest) a w :=
 wpList_plain hgd fun _ hK => by
  unfold Oper.wp execOp
  subst hx
  simp only [ho,Sem.run_bind,List.map_toArray,List.map_cons,List.map_nil,hr,Result.andThen_ok,Sem.run_pure]
  exact hK _ _ h
def headOk (s t:Int):Bool:=seqB s && decide (0 ≤ t ∧ t ≤ 255)
def headZ (s t:Int):Nat → Int:=if headOk s t then wz (jw 4 s t nz) else fun _ => 0
def errOf (b:Bool) (e:Int):Int:=if b then 0 else e
def isCall (o:Oper):Bool:=match o.op with | .call _ => true | _ => false
def plainOp (o:Oper):Bool:=match o.op with | .move _ | .assign _ | .pick _ _ _ | .build _ _ | .load _ _ | .binOp _ _ _ _ _ | .unOp _ _ _ | .convert _ _ _ | .fieldAddr _ _ _ | .field _ _ _ | .indexAddr _ _ _ | .index _ _ _ | .extract _ _ | .slice _ _ _ _ _ => true | _ => false
def chainB (md:Region.Mode) (ops:Array Oper):Bool :=
 (List.range ops.size).all fun j => (List.range j).all fun i => match ops[j]?,ops[i]? with
  | some oj,some oi => !(isCall oi && isCall oj) || (List.range j).any fun p => decide (i ≤ p) && ((ops[p]?).map isCall).getD false && oj.after.any fun e => Region.binds md e && e.on == p
  | _,_ => true
section
variable {P:Program} {ops:Array Oper} {md:Region.Mode} {C:Nat → World → Prop}
theorem chainB_spec (h:chainB md ops = true) {i j:Nat} {oi oj:Oper} (hi:ops[i]? = some oi) (hj:ops[j]? = some oj) (ci:isCall oi = true) (cj:isCall oj = true) (hij:i < j) :
  ∃ p op,i ≤ p ∧ p < j ∧ ops[p]? = some op ∧ isCall op = true ∧ ∃ e ∈ oj.after,Region.binds md e = true ∧ e.on = p:=by
 unfold chainB at h
 rw [List.all_eq_true] at h
 have h1:=h j (List.mem_range.2 (Array.getElem?_eq_some_iff.1 hj).1)
 rw [List.all_eq_true] at h1
 have h2:=h1 i (List.mem_range.2 hij)
 rw [hi,hj] at h2
 simp only [ci,cj,Bool.and_true,Bool.not_true,Bool.false_or,List.any_eq_true,Bool.and_eq_true,decide_eq_true_eq] at h2
 obtain ⟨p,hp,⟨hip,hc⟩,hany⟩:=h2
 rw [Array.any_eq_true'] at hany
 obtain ⟨e,he,hb⟩:=hany
 rw [Bool.and_eq_true,beq_iff_eq] at hb
 cases ho:ops[p]? with
 | none => rw [ho] at hc;cases hc
 | some op => rw [ho] at hc;exact ⟨p,op,hip,List.mem_range.1 hp,ho,by simpa using hc,e,he,hb.1,hb.2⟩
def stillUpon (w:World) (v:Value):Result Next → Prop
 | .ok (.value u) w' => w' = w ∧ u = v
 | .ok .skip w' => w' = w ∧ v = undef
 | _ => False
def entersUpon (P:Program) (w:World) (R:Ending → World → Prop):Result Next → Prop
 | .ok (.enter f args) w' => w' = w ∧ Calls P f args w R
 | _ => False
def stillIn (P:Program) (C:Nat → World → Prop) (o:Oper) (a:Act) (v:Value):Prop:=∀ w,(∃ k,C k w) → stillUpon w v ((execOp a.eval o).run P w)
def callIn (P:Program) (C:Nat → World → Prop) (k:Nat) (o:Oper) (a:Act) (v:Value):Prop:=∀ w,C k w → entersUpon P w (fun e w' => e = .returned v ∧ C (k + 1) w') ((execOp a.eval o).run P w)
def LY (P:Program) (ops:Array Oper) (C:Nat → World → Prop) (o:Oper) (v:Value) (a:Act) (k k':Nat):Prop :=
 (Region.wanted o (yielded ops a.tmps) = true ∧ ((isCall o = true ∧ callIn P C k o a v ∧ k' = k + 1) ∨ (isCall o = false ∧ stillIn P C o a v ∧ k' = k))) ∨
 (Region.wanted o (yielded ops a.tmps) = false ∧ v = undef ∧ k' = k)
def linOp (P:Program) (ops:Array Oper) (C:Nat → World → Prop) (i:Nat) (K:Nat → Act → Prop) (k:Nat) (a:Act):Prop :=
 match ops[i]? with
 | none => K k a
 | some o => ∃ v k',LY P ops C o v a k k' ∧ K k' (a.put o.dst v)
def wpAnyL (P:Program) (md:Region.Mode) (ops:Array Oper) (C:Nat → World → Prop) (Q:Nat → Act → Prop):Nat → Array Bool → Nat → Act → Prop
 | 0,listed,k,a => Region.ready md ops listed = [] ∧ Q k a
 | fuel + 1,listed,k,a => (Region.ready md ops listed = [] → Q k a) ∧ ∀ i ∈ Region.ready md ops listed,linOp P ops C i (wpAnyL P md ops C Q fuel (listed.setIfInBounds i true)) k a
theorem linOp_mono {i k:Nat} {a:Act} {K K':Nat → Act → Prop} (h:∀ k a,K k a → K' k a) (hh:linOp P ops C i K k a):linOp P ops C i K' k a:=by
 unfold linOp at *
 cases ho:ops[i]? with
 | none => rw [ho] at hh;exact h _ _ hh
 | some o => rw [ho] at hh;obtain ⟨v,k',h1,h2⟩:=hh;exact ⟨v,k',h1,h _ _ h2⟩
theorem wpOp_of_lin {i k:Nat} {a:Act} {K:Nat → Act → Prop} {K':Act → World → Prop} {Q':Exit → Act → World → Prop} {w:World} (hC:C k w) (h:∀ k a w',C k w' → K k a → K' a w') (hh:linOp P ops C i K k a):wpOp P ops Q' i K' a w:=by
 unfold linOp at hh
 unfold wpOp
 split
 ·rename_i ho;simp only [ho] at hh;exact h _ _ _ hC hh
 ·rename_i o ho
  simp only [ho] at hh
  obtain ⟨v,k',hy,hK⟩:=hh
  rcases hy with ⟨hw,hy⟩ | ⟨hw,rfl,rfl⟩
  ·simp only [hw,if_true]
   refine .inl ?_
   unfold Oper.wp
   rcases hy with ⟨_,hc,rfl⟩ | ⟨_,hs,rfl⟩
   ·have h3:=hc w hC
    generalize (execOp a.eval o).run P w = r at *
    cases r with
    | ok n w' =>
     cases n <;> simp only [entersUpon] at h3 <;> simp only [Oper.upon]
     obtain ⟨rfl,hc⟩:=h3
     exact hc.mono fun e w'' ⟨he,hw''⟩ => by subst he;exact h _ _ _ hw'' hK
    | halt x w' => simp only [entersUpon] at h3
   ·have h3:=hs w ⟨_,hC⟩
    generalize (execOp a.eval o).run P w = r at *
    cases r with
    | ok n w' =>
     cases n <;> simp only [stillUpon] at h3 <;> simp only [Oper.upon]
     ·obtain ⟨rfl,rfl⟩:=h3;exact h _ _ _ hC hK
     ·obtain ⟨rfl,rfl⟩:=h3;exact h _ _ _ hC hK
    | halt x w' => simp only [stillUpon] at h3
  ·simp only [hw];exact h _ _ _ hC hK
theorem wpAny_of_lin {Q:Nat → Act → Prop} {Q':Exit → Act → World → Prop} (hQ:∀ k a w,C k w → Q k a → Q' .normal a w):∀ (fuel:Nat) (listed:Array Bool) (k:Nat) (a:Act) (w:World),C k w →
  wpAnyL P md ops C Q fuel listed k a → wpAny P md ops Q' fuel listed a w
 | 0,_,_,_,_,hw,h => ⟨h.1,hQ _ _ _ hw h.2⟩
 | fuel + 1,_,_,_,_,hw,h => ⟨fun h0 => hQ _ _ _ hw (h.1 h0),fun i hi => wpOp_of_lin hw (fun k' a' w' hw' => wpAny_of_lin hQ fuel _ k' a' w' hw') (h.2 i hi)⟩
theorem LY.linOp {i k k':Nat} {o:Oper} {v:Value} {a:Act} (hi:ops[i]? = some o) (hy:LY P ops C o v a k k') {K:Nat → Act → Prop} (h:K k' (a.put o.dst v)):linOp P ops C i K k a:=by
 unfold Proofs.YtphamecphmbipaaGreatDoor.linOp
 simp only [hi]
 exact ⟨v,k',hy,h⟩
theorem LY.of_same {o:Oper} {v:Value} {a a':Act} {k k':Nat} (hy:LY P ops C o v a k k') (he:execOp a'.eval o = execOp a.eval o)
  (hw:Region.wanted o (yielded ops a'.tmps) = Region.wanted o (yielded ops a.tmps)):LY P ops C o v a' k k':=by
 unfold LY callIn stillIn at *
 rw [he,hw]
 exact hy
theorem LY.step {o:Oper} {v:Value} {a:Act} {k k':Nat} (hy:LY P ops C o v a k k') (hc:isCall o = false):k' = k ∧ ∀ m,LY P ops C o v a m m:=by
 rcases hy with ⟨hw,⟨h,_⟩ | ⟨h,hs,rfl⟩⟩ | ⟨hw,rfl,rfl⟩
 ·rw [hc] at h;cases h
 ·exact ⟨rfl,fun m => .inl ⟨hw,.inr ⟨h,hs,rfl⟩⟩⟩
 ·exact ⟨rfl,fun m => .inr ⟨hw,rfl,rfl⟩⟩
theorem linOp_put {j k k1:Nat} {oi oj:Oper} {v:Value} (hj:ops[j]? = some oj) (hap:oi.apart ops oj = true)
  (hsi:∀ cs b,oi.op ≠ .select cs b) (hsj:∀ cs b,oj.op ≠ .select cs b) (hcc:isCall oi = false ∨ isCall oj = false) {K:Nat → Act → Prop} {a:Act}
  (hy:LY P ops C oi v a k k1) (h:linOp P ops C j K k1 (a.put oi.dst v)) :
  linOp P ops C j (fun k' a' => ∃ k1',LY P ops C oi v a' k' k1' ∧ K k1' (a'.put oi.dst v)) k a:=by
 obtain ⟨h1,h2,h3⟩:=Oper.apart_spec hap
 have keep:∀ (u:Value) (m m':Nat),LY P ops C oi v a m m' → LY P ops C oi v (a.put oj.dst u) m m':=fun u m m' hy =>
  hy.of_same (execOp_put oi hsi a oj.dst u h3) (wanted_put oi a oj.dst u h3)
 unfold linOp at *
 simp only [hj] at *
 obtain ⟨u,k2,hu,hK⟩:=h
 have hu':LY P ops C oj u a k1 k2:=hu.of_same (execOp_put oj hsj a oi.dst v h1).symm (wanted_put oj a oi.dst v h1).symm
 rw [Act.put_comm a v u h2] at hK
 rcases hcc with hc | hc
 ·obtain ⟨rfl,hany⟩:=hy.step hc
  exact ⟨u,k2,hu',k2,keep u _ _ (hany k2),hK⟩
 ·obtain ⟨rfl,hany⟩:=hu'.step hc
  exact ⟨u,k,hany k,k2,keep u _ _ hy,hK⟩
def Pre (ops:Array Oper) (listed:Array Bool):Prop:=∀ i j oi oj,ops[i]? = some oi → ops[j]? = some oj → isCall oi = true → isCall oj = true → i < j → listed.getD j false = true → listed.getD i false = true
theorem getD_both {listed:Array Bool} {i:Nat} (h:listed.getD i true = false):listed.getD i false = false:=by
 rcases Nat.lt_or_ge i listed.size with h' | h'
 ·simp [h'] at h ⊢;exact h
 ·simp [Array.getElem?_eq_none h']
theorem Pre.next (hch:chainB md ops = true) {listed:Array Bool} (h:Pre ops listed) {j:Nat} (hj:j ∈ Region.ready md ops listed):Pre ops (listed.setIfInBounds j true):=by
 intro i m oi om hi hm ci cm him hl
 obtain ⟨hun,oj,hoj,hall⟩:=mem_ready.1 hj
 by_cases hmj:j = m
 ·subst hmj
  rw [hoj] at hm;cases hm
  obtain ⟨p,op,hip,hpj,hp,cp,e,he,hb,heq⟩:=chainB_spec hch hi hoj ci cm him
  have hp':=hall e he hb
  rw [heq] at hp'
  refine getD_set_true ?_
  by_cases hpi:i = p
  ·subst hpi;exact hp'
  ·exact h i p oi op hi hp ci cp (by omega) hp'
 ·rw [getD_set_ne false hmj] at hl
  exact getD_set_true (h i m oi om hi hm ci cm him hl)
theorem wpAnyL_first (hch:chainB md ops = true) {Q:Nat → Act → Prop} {i:Nat} {oi:Oper} {v:Value} (hi:ops[i]? = some oi) (hsel:∀ (j:Nat) (o:Oper) cs b,ops[j]? = some o → o.op ≠ .select cs b) :
  ∀ (fuel:Nat) (listed:Array Bool) (k k1:Nat) (a:Act),Pre ops listed → (∀ j,j < i → listed.getD j true = true) →
   (∀ j oj,ops[j]? = some oj → j ≠ i → listed.getD j true = false → (∀ e ∈ oj.after,Region.binds md e = true → e.on ≠ i) → oi.apart ops oj = true) →
   i ∈ Region.ready md ops listed → LY P ops C oi v a k k1 →
   wpAnyL P md ops C Q fuel (listed.setIfInBounds i true) k1 (a.put oi.dst v) → wpAnyL P md ops C Q (fuel + 1) listed k a:=by
 intro fuel
 induction fuel with
 | zero =>
  intro listed k k1 a _ _ _ hr hy H
  refine ⟨fun h => (by rw [h] at hr;cases hr),fun j hj => ?_⟩
  by_cases hji:j = i
  ·subst hji;exact hy.linOp hi H
  ·have:=ready_mono hj hji
   rw [H.1] at this
   cases this
 | succ fuel ih =>
  intro listed k k1 a hpre hlow hfree hr hy H
  refine ⟨fun h => (by rw [h] at hr;cases hr),fun j hj => ?_⟩
  by_cases hji:j = i
  ·subst hji;exact hy.linOp hi H
  ·have h1:=H.2 j (ready_mono hj hji)
   obtain ⟨hjun,oj,hoj,hall⟩:=mem_ready.1 hj
   have hnot:∀ e ∈ oj.after,Region.binds md e = true → e.on ≠ i:=fun e he hb heq => by
    have h1:=hall e he hb
    have h0:=getD_both (mem_ready.1 hr).1
    rw [heq,h0] at h1
    cases h1
   have hij:i < j:=by
    rcases Nat.lt_or_ge j i with h' | h'
    ·rw [hlow j h'] at hjun;cases hjun
    ·omega
   have hcc:isCall oi = false ∨ isCall oj = false:=by
    cases ci:isCall oi with
    | false => exact .inl rfl
    | true =>
     refine .inr ?_
     cases cj:isCall oj with
     | false => rfl
     | true =>
      obtain ⟨p,op,hip,hpj,hp,cp,e,he,hb,heq⟩:=chainB_spec hch hi hoj ci cj hij
      have hp':=hall e he hb
      rw [heq] at hp'
      have h0:=getD_both (mem_ready.1 hr).1
      by_cases hpi:i = p
      ·subst hpi;rw [h0] at hp';cases hp'
      ·have:=hpre i p oi op hi hp ci cp (by omega) hp'
       rw [h0] at this;cases this
   have h2:=linOp_put hoj (hfree j oj hoj hji hjun hnot) (fun cs b => hsel i oi cs b hi) (fun cs b => hsel j oj cs b hoj) hcc hy h1
   have hfree':∀ k ok,ops[k]? = some ok → k ≠ i → (listed.setIfInBounds j true).getD k true = false →
     (∀ e ∈ ok.after,Region.binds md e = true → e.on ≠ i) → oi.apart ops ok = true:=fun k ok hk hki hun hno => by
    refine hfree k ok hk hki ?_ hno
    by_cases hjk:j = k
    ·subst hjk;exact hjun
    ·rw [getD_set_ne true hjk] at hun;exact hun
   have hlow':∀ m,m < i → (listed.setIfInBounds j true).getD m true = true:=fun m hm => by rw [getD_set_ne true (by omega)];exact hlow m hm
   refine linOp_mono (fun k' a' h3 => ?_) h2
   obtain ⟨k1',hy',hK'⟩:=h3
   refine ih (listed.setIfInBounds j true) k' k1' a' (hpre.next hch hj) hlow' hfree' (ready_mono hr (Ne.symm hji)) hy' ?_
   rw [Array.setIfInBounds_comm _ _ hji]
   exact hK'
def wpLin (P:Program) (ops:Array Oper) (C:Nat → World → Prop) (Q:Nat → Act → Prop):List Oper → Nat → Act → Prop
 | [],k,a => Q k a
 | o :: rest,k,a => ∃ v k',LY P ops C o v a k k' ∧ wpLin P ops C Q rest k' (a.put o.dst v)
theorem wpAnyL_lex (hch:chainB md ops = true) {Q:Nat → Act → Prop} (hs:Region.noSelect ops = true):∀ (l:List Oper) (n:Nat) (listed:Array Bool) (k:Nat) (a:Act),Pre ops listed → (∀ j,j < n → listed.getD j true = true) → (∀ j,l[j]? = ops[n + j]?) →
  Region.lexFrom md ops l.length n listed = true → wpLin P ops C Q l k a → wpAnyL P md ops C Q l.length listed k a
 | [],_,_,_,_,_,_,_,hB,h => ⟨by simpa [Region.lexFrom] using hB,h⟩
 | o :: l,n,listed,k,a,hpre,hlow,hl,hB,h => by
  have h0:ops[n]? = some o:=by simpa using (hl 0).symm
  simp only [List.length_cons,Region.lexFrom,Bool.and_eq_true] at hB
  obtain ⟨⟨hr,hf⟩,hB'⟩:=hB
  have hr':n ∈ Region.ready md ops listed:=by simpa using hr
  obtain ⟨v,k',hy,hK⟩:=h
  refine wpAnyL_first hch h0 (Region.noSelect_spec hs) l.length listed k k' a hpre hlow (Region.free_spec h0 hf) hr' hy
   (wpAnyL_lex hch hs l (n + 1) _ _ _ (hpre.next hch hr') (fun j hj => ?_) (fun j => by have:=hl (j + 1);simpa [Nat.add_assoc,Nat.add_comm 1 j] using this) hB' hK)
  by_cases hjn:n = j
  ·subst hjn
   rcases Nat.lt_or_ge n listed.size with h' | h'
   ·simp [h']
   ·simp [h']
  ·rw [getD_set_ne true hjn];exact hlow j (by omega)
/-! ### Steps of the walk -/
theorem v_no_enter (s:Sem Value) (w:World) (f:FuncId) (args:Array Value) (w':World):(do pure (.value (← s)):Sem Next).run P w ≠ .ok (.enter f args) w':=by
 rw [Sem.run_bind]
 cases s.run P w <;> simp [Result.andThen,Sem.run_pure]
theorem plain_no_enter {o:Oper} (ho:plainOp o = true) (a:Act) (w:World) (f:FuncId) (args:Array Value) (w':World):(execOp a.eval o).run P w ≠ .ok (.enter f args) w':=by
 unfold plainOp at ho
 unfold execOp
 split at ho
 case h_3 c x y hop =>
  simp only [hop]
  rw [Sem.run_bind]
  cases (asBool (a.eval c)).run P w <;> simp [Result.andThen,Sem.run_pure]
 case h_15 => cases ho
 all_goals
  rename_i hop
  simp only [hop]
  first | exact v_no_enter _ w f args w' | (rw [Sem.run_pure];intro h;cases h)
theorem wpLin_nil {Q:Nat → Act → Prop} {k:Nat} {a:Act} (h:Q k a):wpLin P ops C Q [] k a:=h
theorem lin_seg {Q:Nat → Act → Prop} {k:Nat}:∀ (seg rest:List Oper) (a:Act),seg.all (fun o => plainOp o && !isCall o) = true →
  wpQuiet P ops (fun w' => ∃ s:InW (fun w => ∃ k,C k w),w' = s.W) (fun a' => wpLin P ops C Q rest k a') seg a → wpLin P ops C Q (seg ++ rest) k a
 | [],rest,a,_,h => h
 | o :: seg,rest,a,hp,h => by
  rw [List.all_cons,Bool.and_eq_true,Bool.and_eq_true,Bool.not_eq_true'] at hp
  obtain ⟨⟨hpl,hnc⟩,hp'⟩:=hp
  unfold wpQuiet at h
  by_cases hw:Region.wanted o (yielded ops a.tmps) = true
  ·rw [if_pos hw] at h
   obtain ⟨v,h1,h2⟩:=h
   refine ⟨v,k,.inl ⟨hw,.inr ⟨hnc,fun w hC => ?_,rfl⟩⟩,lin_seg seg rest _ hp' h2⟩
   have h3:=h1 w ⟨⟨w,hC⟩,rfl⟩
   unfold Oper.quietAt at h3
   have h4:=fun f args w' => plain_no_enter (P:=P) hpl a w f args w'
   generalize (execOp a.eval o).run P w = r at *
   cases r with
   | ok n w' =>
    cases n <;> simp only [Oper.quietUpon] at h3 <;> simp only [stillUpon]
    ·exact h3
    ·exact h3
    ·exact (h4 _ _ _ rfl).elim
   | halt x w' => simp only [Oper.quietUpon] at h3
  ·rw [if_neg hw] at h
   exact ⟨undef,k,.inr ⟨by simpa using hw,rfl,rfl⟩,lin_seg seg rest _ hp' h⟩
theorem lin_take {Q:Nat → Act → Prop} {k:Nat} (n:Nat) {l:List Oper} {a:Act} (hp:(l.take n).all (fun o => plainOp o && !isCall o) = true)
  (h:wpQuiet P ops (fun w' => ∃ s:InW (fun w => ∃ k,C k w),w' = s.W) (fun a' => wpLin P ops C Q (l.drop n) k a') (l.take n) a):wpLin P ops C Q l k a:=by
 have:=lin_seg (l.take n) (l.drop n) a hp h
 rwa [List.take_append_drop] at this
theorem lin_call {Q:Nat → Act → Prop} {k:Nat} {o:Oper} {rest:List Oper} {a:Act} (hw:Region.wanted o (yielded ops a.tmps) = true) (hc:isCall o = true) (f:FuncId) (args:Array Value) (v:Value)
  (he:∀ w,(execOp a.eval o).run P w = .ok (.enter f args) w) (hcall:∀ w,C k w → Calls P f args w fun e w' => e = .returned v ∧ C (k + 1) w')
  (h:wpLin P ops C Q rest (k + 1) (a.put o.dst v)):wpLin P ops C Q (o :: rest) k a :=
 ⟨v,k + 1,.inl ⟨hw,.inl ⟨hc,fun w hC => by rw [he];exact ⟨rfl,hcall w hC⟩,rfl⟩⟩,h⟩
theorem wp_region_lin (C:Nat → World → Prop) {id:Nat} {Q:Exit → Act → World → Prop} {a:Act} {w:World} {l:List Oper} (hm:P.follows .mixedOrders = true) (hB:Region.lexB .any l.toArray = true) (hch:chainB .any l.toArray = true) (hC:C 0 { w with drawn:=w.drawn + 1 })
  (h:Nonempty (InW fun w => ∃ k,C k w) → wpLin P l.toArray C (fun k a' => ∀ w',C k w' → Q .normal a' w') l 0 a):(Code.region id l.toArray true).wp P Q a w:=by
 simp only [Region.lexB,Bool.and_eq_true] at hB
 refine wp_region_any hm (wpAny_of_lin (Q:=fun k a' => ∀ w',C k w' → Q .normal a' w') (fun _ _ w' hw' h => h w' hw') _ _ 0 _ _ hC ?_)
 have:=wpAnyL_lex (C:=C) (md:=.any) hch hB.1 l 0 (Array.replicate l.toArray.size false) 0 a (fun i j oi oj hi hj ci cj hij hl => by
   rcases Nat.lt_or_ge j l.toArray.size with h' | h'
   ·rw [List.size_toArray] at h';simp [h'] at hl
   ·rw [List.size_toArray] at h';simp [h'] at hl) (fun j hj => by omega) (by simp) (by simpa using hB.2) (h ⟨⟨_,0,hC⟩⟩)
 simpa using this
end
theorem wpLin_frame {P:Program} {ops:Array Oper} {C:Nat → World → Prop} {Q:Nat → Act → Prop} {l:List Oper} {k:Nat} {a a':Act} (e:a = a') (h:wpLin P ops C Q l k a'):wpLin P ops C Q l k a:=e ▸ h
theorem wp_loadMid {P:Program} {w:World} {ops:Array Oper} {rest:List Oper} {o:Oper} {a:Act} {Q:Exit → Act → World → Prop} (hw:Region.wanted o (yielded ops a.tmps) = true) (T:TypeId) (p:Operand) (ho:o.op = .load T p)
  (g off:Nat) (cs:List Value) (d:TypeDesc) (hx:a.eval p = .pointer (some ⟨g,off,none⟩)) (hI:w.rangeAt g off cs) (hu:P.underlying T = some d) (hd:d.isRow = true) (hi:(P.info? T).map (·.size) = some cs.length)
  (h:wpList P ops Q rest (a.put o.dst (.agg cs.toArray)) w):wpList P ops Q (o :: rest) a w :=
 BigFrame.wpList_want hw fun _ hK => wp_load_mid T p ho g off hx cs d hI hu hd hi (hK _ _ h)
def bit (b:Bool):Int:=if b then 1 else 0
def NumSeg (w:World) (b off n:Nat) (m:Nat → Int):Prop:=∀ i,i < n → w.cell? ⟨b,off + i,none⟩ = some (.int .u32 (m i))
def NumRow (w:World) (a:Option Addr) (n:Nat) (m:Nat → Int):Prop:=n = 0 ∨ ∃ b off,a = some ⟨b,off,none⟩ ∧ NumSeg w b off n m
theorem NumSeg.below {w w':World} {b off n:Nat} {m:Nat → Int} (h:NumSeg w b off n m) {B:Nat} (hb:Below B w w') (hB:b < B):NumSeg w' b off n m :=
 fun i hi => (hb.cell (p:=⟨b,off + i,none⟩) hB).trans (h i hi)
theorem NumSeg.lt {w:World} {b off n:Nat} {m:Nat → Int} (h:NumSeg w b off n m) (hn:0 < n):b < w.heap.size:=World.block_lt_of_cell? w _ (h 0 hn)
theorem NumSeg.only {w w':World} {b off n g:Nat} {m:Nat → Int} (h:NumSeg w b off n m) (hb:Only g w w') (hg:b ≠ g):NumSeg w' b off n m :=
 fun i hi => (hb.cell (p:=⟨b,off + i,none⟩) hg).trans (h i hi)
theorem NumRow.below {w w':World} {a:Option Addr} {n:Nat} {m:Nat → Int} (h:NumRow w a n m) (hb:Below w.heap.size w w'):NumRow w' a n m:=by
 rcases h with h | ⟨b,off,rfl,h⟩
 ·exact .inl h
 ·by_cases h0:n = 0
  ·exact .inl h0
  ·exact .inr ⟨b,off,rfl,h.below hb (h.lt (by omega))⟩
def numR (m:Nat → Int) (k:Nat) (j:Nat):Int:=if j < k then m j else 0
theorem own_form {W:World} {base k:Nat} {e:TypeId} {size:Nat} {v:Value} {xs:List Value} (h:W.ownsRow base e size v (k + 1) xs):∃ g cap,v = .slice (some ⟨g,0,none⟩) (k + 1) cap:=by
 rcases h.2 with ⟨_,h0⟩ | ⟨g',cap',cur,hv,_⟩
 ·omega
 ·exact ⟨g',cap',hv⟩
theorem NumRow.block {w:World} {a:Option Addr} {n:Nat} {m:Nat → Int} (h:NumRow w a n m) (hn:0 < n):∀ x,a = some x → x.block < w.heap.size:=by
 rcases h with h | ⟨b,off,rfl,h⟩
 ·omega
 ·intro x hx;cases hx;exact h.lt hn
end Go.Proofs.YtphamecphmbipaaGreatDoor

namespace Go.Proofs.YtphamecphmbipaaGreatDoor
open Go.RowKit
def sizePk (c r:Int):Int :=
 if c < 0 ∨ r < 0 ∨ 2048 < c ∨ 2048 < r ∨ (c = 0 ∧ r = 0) then 0 else c + (c + 29) / 30 + (r + 59) / 60 + 1
end Go.Proofs.YtphamecphmbipaaGreatDoor

namespace Go.Proofs.YtphamecphmbipaaGreatDoor
open Go.RowKit
set_option linter.unusedVariables false
structure Tr where
 s:Int
 n:Nat
 cb:Nat → Int
 cd:Nat → Nat → Int
 m:Nat
 rv:Nat → Int
structure Tr.Ok (t:Tr):Prop where
 s:0 ≤ t.s ∧ t.s < 4294967296
 cb:∀ i,-9223372036854775808 ≤ t.cb i ∧ t.cb i ≤ 9223372036854775807
 cd:∀ i,Byt (t.cd i)
 rv:∀ i,-9223372036854775808 ≤ t.rv i ∧ t.rv i ≤ 9223372036854775807
 n:(t.n:Int) ≤ 9223372036854775807
 m:(t.m:Int) ≤ 9223372036854775807
 cb0:∀ i,t.n ≤ i → t.cb i = 0
 rv0:∀ i,t.m ≤ i → t.rv i = 0
def riseT (b:Nat → Int):Nat → Bool
 | 0 => true
 | i + 1 => riseT b i && (decide ((if i = 0 then -1 else b (i - 1)) < b i) && decide (b i < 2048))
def mayT (s:Int) (n:Nat) (cb:Nat → Int) (m:Nat) (rv:Nat → Int):Bool:=seqB s && (decide (0 < n + m) && (riseT cb n && riseT rv m))
def Tr.may (t:Tr):Bool:=mayT t.s t.n t.cb t.m t.rv
def dN (n:Nat):Nat:=n + (n + 29) / 30
def rN (m:Nat):Nat:=(m + 59) / 60
def Tr.c (t:Tr):Nat:=dN t.n + rN t.m
def Tr.size (t:Tr):Int:=sizePk t.n t.m
def bkF (B:Nat → Nat → Int) (i:Nat):List Value:=Ks .u8 256 (B i)
def inF (b:Nat → Int) (i:Nat):List Value:=[.int .i64 (b i)]
theorem bkF_len (B:Nat → Nat → Int) (i:Nat):(bkF B i).length = 256:=by simp [bkF,Ks]
theorem Ks_oneL (k:IntKind) (n:Nat) (z:Nat → Int):∀ v ∈ Ks k n z,v.oneCell' = true:=by
 intro v hv
 unfold Ks at hv
 obtain ⟨i,_,rfl⟩:=List.mem_map.1 hv
 rfl
end Go.Proofs.YtphamecphmbipaaGreatDoor

namespace Go.Proofs.YtphamecphmbipaaGreatDoor
open Go.RowKit
set_option linter.unusedVariables false
variable {F:Fence} {n:Nat} {P:Program}
end Go.Proofs.YtphamecphmbipaaGreatDoor

namespace Go.Proofs.YtphamecphmbipaaGreatDoor
open Go.RowKit Go.Shelf
set_option linter.unusedVariables false
attribute [local go_sem] Oper.semAt_some
end Go.Proofs.YtphamecphmbipaaGreatDoor
