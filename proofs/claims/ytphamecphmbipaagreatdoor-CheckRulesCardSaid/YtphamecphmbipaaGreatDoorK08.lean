/- Texts of this claim, merged. -/
import Derived.Test.YtphamecphmbipaaGreatDoorK07
import Derived.Lib.Strings
import Derived.Lib.Slices
import Derived.Lib.Walk
import Derived.Lib.Bytealg
import Derived.OrdersIn
set_option linter.unusedVariables false
set_option maxRecDepth 100000
set_option maxHeartbeats 16000000

namespace Go.Proofs.YtphamecphmbipaaGreatDoor
open Go.RowKit
open Lib (hid)
variable {ops:Array Oper} {rest:List Oper} {o:Oper} {a:Act} {w:World} {Q Q':Exit->Act->World->Prop} {i g p base:Nat} {T e:TypeId} {cs:Array Value} {v:Value} {xs:List Value}
section
variable {P:Program} {md:Region.Mode} {ops:Array Oper}
end
section
variable {P:Program}
theorem iY(w:World)(b off:Nat)(ty:TypeId)(u v:Value)(hc:w.cell? ⟨b,off,none⟩=some u)(hf:w.frozen? ⟨b,off,none⟩=false)(hi:(P.info? ty).map (·.size)=some 1)(h1:v.oneCell'=true):
  (storeVar ty ⟨b,off,none⟩ v).run P w= .ok () (w.setCell ⟨b,off,none⟩ v):=by
 have hv:v.cells= #[v]:=by cases v<;>first|rfl|cases h1
 have hst:(store ⟨b,off,none⟩ v).run P w= .ok () (w.setCell ⟨b,off,none⟩ v):=by rw[run_store P w _ _ _ h1,hc];simp[hf]
 cases hq:P.info? ty with
 |none=>simp[hq] at hi
 |some i=>
  have hs:i.size=1:=by simpa[hq] using hi
  simp[storeVar,sizeOf,typeInfo,hq,hv,hs,storeCells,bh,hst]
theorem tu(hgd:o.guard=none)(ty:TypeId)(x y:Operand)(ho:o.op= .store ty x y)
  (b off:Nat) (v:Value) (hx:a.eval x= .pointer (some ⟨b,off,none⟩)) (hy:a.eval y=v) (u:Value) (hc:w.cell? ⟨b,off,none⟩=some u) (hf:w.frozen? ⟨b,off,none⟩=false) (hi:(P.info? ty).map (·.size)=some 1) (h1:v.oneCell'=true)
  (h:wpList P ops Q rest (a.put o.dst undef) (w.setCell ⟨b,off,none⟩ v)):wpList P ops Q (o::rest) a w:=
 wpList_plain hgd λ_ hK=>by
  unfold Oper.wp execOp;simp only[ho,hx,hy,Instr.storeAt,Instr.sureAddr,Sem.run_bind,Sem.run_pure,Result.andThen_ok,iY w b off ty u v hc hf hi h1];exact hK _ _ h
end
theorem BB:(Tryz.prog.info? 5).map (·.size)=some 1:=by kernel_rfl
theorem jF(hgd:o.guard=none)(x y:Operand)(ho:o.op= .store 5 x y)
  (b off:Nat) (v:Int) (hx:a.eval x= .pointer (some ⟨b,off,none⟩)) (hy:a.eval y= .int .u8 v) {T:TypeId} {n:Nat} {z:Nat->Int} (hB:aQ w b T n z) (hn:off<n)
  (h:∀w',aQ w' b T n (over z off 1 (λ_=>v))->an b w w'->wpList Tryz.prog ops Q rest (a.put o.dst undef) w'):wpList Tryz.prog ops Q (o::rest) a w:=
 tu hgd 5 x y ho b off _ hx hy _ (by have:=hB.bI off hn;rwa[Nat.zero_add] at this) (ag hB off) BB rfl (h _ (hB.setCell off v hn) (an.setCell w ⟨b,off,none⟩ _))
def Cl(R:World->Prop):Prop:=∀W W',R W->Below W.heap.size W W'->R W'
section
variable {P:Program} {md:Region.Mode} {ops ops1:Array Oper} {S:World->Prop} {A:Act}
variable {n d:Nat} {al:Oper} {l2:List Oper} {T:TypeId} {cs:Array Value} {Q:Exit->Act->World->Prop} {base:Nat}
end
theorem rn(s:ByteArray)(c:Int)(w:World):
  Calls Tryz.prog 167 #[.string s,.int .u8 c] w λe w'=>e= .returned (.int .i64 (Lib.indexByte s.data.toList c.toNat.toUInt8))/\w'=w:=by
 go_enter Tryz.func167,Tryz.ntmps167
 go_wp2
 rw[run_callFunc_extern Tryz.func168 (by kernel_rfl) (by kernel_rfl) (by kernel_rfl) (e:=Extern.BytealgIndexByte.indexByte) (by kernel_rfl),Lib.run_indexByteString];simp only[Result.andThen];rw[Oper.upon_value]
 go_wp2
 go_ret;exact⟨rfl,rfl⟩
theorem iN(s:ByteArray)(c:Int)(w:World):
  Calls Tryz.prog 164 #[.string s,.int .u8 c] w λe w'=>e= .returned (.int .i64 (Lib.indexByte s.data.toList c.toNat.toUInt8))/\w'=w:=by
 go_enter Tryz.func164,Tryz.ntmps164;go_wp2_with fail;refine(rn _ _ _).mono ?_;rintro e w' ⟨rfl,rfl⟩;go_wp2_with fail;go_ret;exact⟨rfl,rfl⟩
def I7(l:List UInt8):Bool:=decide (1<=l.length)&&(decide (l.length<=27)&&(l !=[46]&&(l !=[46,46]&&(!l.contains 47&& !l.contains 0))))
def eD(s:ByteArray):Bool:=I7 s.data.toList
theorem lX(l:List UInt8)(c:UInt8):decide (Lib.indexByte l c<0)= !l.contains c:=by
 induction l with
 |nil=>rfl
 |cons b l ih=>
  have hge:=Lib.indexByte_ge l c;unfold Lib.indexByte
  by_cases hb:(b==c)=true
  ·have:b=c:=by simpa using hb
   subst this;simp
  ·have hb':(b==c)=false:=by simpa using hb
   have hcb:(c==b)=false:=by rw[beq_eq_false_iff_ne] at hb' ⊢;exactλh=>hb' h.symm
   rw[List.contains_cons,hcb,Bool.false_or,<-ih,hb'];simp only[Bool.false_eq_true,if_false];split
   ·rename_i h1;have h2:=beq_iff_eq.1 h1;rw[h2]
   ·rename_i h1
    have:Lib.indexByte l c≠ -1:=by simpa using h1
    rw[decide_eq_false (by omega),decide_eq_false (by omega)]
theorem x3(s:ByteArray)(hs:s.size<=9223372036854775807)(w:World):Calls Tryz.prog 160 #[.string s] w λe w'=>e= .returned (.bool (eD s))/\w=w':=by
 have hsz:s.size=s.toList.length:=by rw[ByteArray.toList_eq];rfl
 have hM:eD s=(decide (1<=s.toList.length)&&(decide (s.toList.length<=27)&&(s.toList !=[46]&&(s.toList !=[46,46]&&(!s.toList.contains 47&& !s.toList.contains 0))))):=by unfold eD I7;rw[ByteArray.toList_eq]
 have HM:=hid hM;have HZ:=hid hsz;clear hM hsz;go_enter Tryz.func160,Tryz.ntmps160
 by_cases h1:1<=s.size
 rotate_left
 ·have d1:(s.size:Int)<1:=by omega
  have HN:Hid (eD s=false):=by show _=_;rw[HM.out,<-HZ.out,decide_eq_false h1];rfl
  go_wp2_with fail;go_ret;exact⟨by rw[HN.out];rfl,rfl⟩
 have d1:¬(s.size:Int)<1:=by omega
 by_cases h2:s.size<=27
 rotate_left
 ·have d2:(27:Int)<s.size:=by omega
  have HN:Hid (eD s=false):=by show _=_;rw[HM.out,<-HZ.out,decide_eq_false h2];simp
  go_wp2_with fail;go_ret;exact⟨by rw[HN.out];rfl,rfl⟩
 have d2:¬(27:Int)<s.size:=by omega
 cases h3:s.toList==[46] with
 |true=>
  have HN:Hid (eD s=false):=by show _=_;rw[HM.out,bne,h3];simp
  go_wp2_with fail;go_ret;exact⟨by rw[HN.out];rfl,rfl⟩
 |false=>
 cases h4:s.toList==[46,46] with
 |true=>
  have HN:Hid (eD s=false):=by show _=_;rw[HM.out,bne,bne,h4];simp
  go_wp2_with fail;go_ret;exact⟨by rw[HN.out];rfl,rfl⟩
 |false=>
 have HY:Hid (eD s=(!s.data.toList.contains 47&& !s.data.toList.contains 0)):=by
  show _=_;rw[HM.out,<-HZ.out,bne,bne,h3,h4,decide_eq_true h1,decide_eq_true h2,ByteArray.toList_eq];rfl
 go_wp2_with fail;refine(iN _ _ _).mono ?_;rintro e w' ⟨rfl,rfl⟩;have e1:=lX s.data.toList 47;have e2:=lX s.data.toList 0;rw[show((47:Int).toNat.toUInt8)=47 from rfl];generalize Lib.indexByte s.data.toList 47=k1 at*;cases hc:s.data.toList.contains 47 with
 |true=>
  rw[hc] at e1 HY;have q:¬k1<0:=by simpa using e1
  clear e1 hc;go_wp2_with fail;go_ret;exact⟨by rw[HY.out];rfl,rfl⟩
 |false=>
  rw[hc] at e1 HY;have q:k1<0:=by simpa using e1
  clear e1 hc;go_wp2_with fail;refine(iN _ _ _).mono ?_;rintro e w' ⟨rfl,rfl⟩;rw[show((0:Int).toNat.toUInt8)=0 from rfl];generalize Lib.indexByte s.data.toList 0=k2 at*;have E2:=hid e2;clear e2;go_wp2_with fail;go_ret;exact⟨by rw[HY.out,<-E2.out];rfl,rfl⟩
section
open Go.Shelf
attribute [local go_sem] Oper.semAt_some
abbrev aI(kind group Rn size place:Int):Array Value:=#[.int .u8 kind,.int .i64 group,.int .i64 Rn,.int .i64 size,.int .i64 place]
def pw(S t J:Int)(k:Nat):Array Value:=
 if k=0 then aI 1 0 0 1 0 else if k=1 then aI 2 0 1 1 0 else if k=2 then aI 3 0 2 J 0 else
 if(k-3)%4=0 then aI 4 ((k-3)/4:Nat) (2+J+((k-3)/4:Nat)*S) 1 0 else
 if(k-3)%4=1 then aI 5 ((k-3)/4:Nat) (2+J+((k-3)/4:Nat)*S+1) 1 1 else
 if(k-3)%4=2 then aI 6 ((k-3)/4:Nat) (2+J+((k-3)/4:Nat)*S+2) t 2 else
 aI 7 ((k-3)/4:Nat) (2+J+((k-3)/4:Nat)*S+2+t) (S-2-t) (2+t)
theorem vv(S t J:Int)(γ:Nat)(hi:i<4):pw S t J (3+4*γ+i)=if i=0 then aI 4 γ (2+J+(γ:Int)*S) 1 0 else if i=1 then aI 5 γ (2+J+(γ:Int)*S+1) 1 1 else if i=2 then aI 6 γ (2+J+(γ:Int)*S+2) t 2 else aI 7 γ (2+J+(γ:Int)*S+2+t) (S-2-t) (2+t):=by
 have e1:(3+4*γ+i-3)%4=i:=by omega
 have e2:(3+4*γ+i-3)/4=γ:=by omega
 unfold pw;rw[if_neg (by omega),if_neg (by omega),if_neg (by omega),e1,e2]
def iA(B:Nat)(G S I J:Int):Nat->World->Prop:=λ_ W=>At W B 23 (aa G S I J)
theorem nY(W:World):(zeroValue 117).run Tryz.prog W= .ok (.agg (aI 0 0 0 0 0)) W:=by kernel_rfl
theorem MU(J:Int)(W:World):(Instr.index 164 (.agg #[.int .u8 1,.int .i64 0,.int .i64 0,.int .i64 1,.int .i64 0,.int .u8 2,.int .i64 0,.int .i64 1,.int .i64 1,.int .i64 0,.int .u8 3,.int .i64 0,.int .i64 2,.int .i64 J,.int .i64 0]) (.int .i64 0)).run Tryz.prog W= .ok (.agg (aI 1 0 0 1 0)) W:=by kernel_rfl
theorem MT(J:Int)(W:World):(Instr.index 164 (.agg #[.int .u8 1,.int .i64 0,.int .i64 0,.int .i64 1,.int .i64 0,.int .u8 2,.int .i64 0,.int .i64 1,.int .i64 1,.int .i64 0,.int .u8 3,.int .i64 0,.int .i64 2,.int .i64 J,.int .i64 0]) (.int .i64 1)).run Tryz.prog W= .ok (.agg (aI 2 0 1 1 0)) W:=by kernel_rfl
theorem MR(J:Int)(W:World):(Instr.index 164 (.agg #[.int .u8 1,.int .i64 0,.int .i64 0,.int .i64 1,.int .i64 0,.int .u8 2,.int .i64 0,.int .i64 1,.int .i64 1,.int .i64 0,.int .u8 3,.int .i64 0,.int .i64 2,.int .i64 J,.int .i64 0]) (.int .i64 2)).run Tryz.prog W= .ok (.agg (aI 3 0 2 J 0)) W:=by kernel_rfl
theorem MP(g a b c d t s p:Int)(W:World):(Instr.index 165 (.agg #[.int .u8 4,.int .i64 g,.int .i64 a,.int .i64 1,.int .i64 0,.int .u8 5,.int .i64 g,.int .i64 b,.int .i64 1,.int .i64 1,.int .u8 6,.int .i64 g,.int .i64 c,.int .i64 t,.int .i64 2,.int .u8 7,.int .i64 g,.int .i64 d,.int .i64 s,.int .i64 p]) (.int .i64 0)).run Tryz.prog W= .ok (.agg (aI 4 g a 1 0)) W:=by kernel_rfl
theorem MO(g a b c d t s p:Int)(W:World):(Instr.index 165 (.agg #[.int .u8 4,.int .i64 g,.int .i64 a,.int .i64 1,.int .i64 0,.int .u8 5,.int .i64 g,.int .i64 b,.int .i64 1,.int .i64 1,.int .u8 6,.int .i64 g,.int .i64 c,.int .i64 t,.int .i64 2,.int .u8 7,.int .i64 g,.int .i64 d,.int .i64 s,.int .i64 p]) (.int .i64 1)).run Tryz.prog W= .ok (.agg (aI 5 g b 1 1)) W:=by kernel_rfl
theorem MN(g a b c d t s p:Int)(W:World):(Instr.index 165 (.agg #[.int .u8 4,.int .i64 g,.int .i64 a,.int .i64 1,.int .i64 0,.int .u8 5,.int .i64 g,.int .i64 b,.int .i64 1,.int .i64 1,.int .u8 6,.int .i64 g,.int .i64 c,.int .i64 t,.int .i64 2,.int .u8 7,.int .i64 g,.int .i64 d,.int .i64 s,.int .i64 p]) (.int .i64 2)).run Tryz.prog W= .ok (.agg (aI 6 g c t 2)) W:=by kernel_rfl
theorem MM(g a b c d t s p:Int)(W:World):(Instr.index 165 (.agg #[.int .u8 4,.int .i64 g,.int .i64 a,.int .i64 1,.int .i64 0,.int .u8 5,.int .i64 g,.int .i64 b,.int .i64 1,.int .i64 1,.int .u8 6,.int .i64 g,.int .i64 c,.int .i64 t,.int .i64 2,.int .u8 7,.int .i64 g,.int .i64 d,.int .i64 s,.int .i64 p]) (.int .i64 3)).run Tryz.prog W= .ok (.agg (aI 7 g d s p)) W:=by kernel_rfl
theorem oy:(Tryz.prog.info? 117).map (·.size)=some 5:=by kernel_rfl
theorem oY:(Tryz.prog.info? 164).map (·.size)=some 15:=by kernel_rfl
theorem oX:(Tryz.prog.info? 165).map (·.size)=some 20:=by kernel_rfl
abbrev Tu(J:Int):Array Value:=#[.int .u8 1,.int .i64 0,.int .i64 0,.int .i64 1,.int .i64 0,.int .u8 2,.int .i64 0,.int .i64 1,.int .i64 1,.int .i64 0,.int .u8 3,.int .i64 0,.int .i64 2,.int .i64 J,.int .i64 0]
theorem Ko(J:Int):(Tu J).all (·.oneCell')=true:=by kernel_rfl
theorem GK(a b c d e:Int):(aI a b c d e).all (·.oneCell')=true:=by kernel_rfl
abbrev Uc:Array Value:=#[.int .u8 0,.int .i64 0,.int .i64 0,.int .i64 0,.int .i64 0,.int .u8 0,.int .i64 0,.int .i64 0,.int .i64 0,.int .i64 0,.int .u8 0,.int .i64 0,.int .i64 0,.int .i64 0,.int .i64 0]
abbrev h20(γ a b c d t s p:Int):Array Value:=#[.int .u8 4,.int .i64 γ,.int .i64 a,.int .i64 1,.int .i64 0,.int .u8 5,.int .i64 γ,.int .i64 b,.int .i64 1,.int .i64 1,.int .u8 6,.int .i64 γ,.int .i64 c,.int .i64 t,.int .i64 2,.int .u8 7,.int .i64 γ,.int .i64 d,.int .i64 s,.int .i64 p]
theorem Kn(γ a b c d t s p:Int):(h20 γ a b c d t s p).all (·.oneCell')=true:=by kernel_rfl
abbrev Ub:Array Value:=#[.int .u8 0,.int .i64 0,.int .i64 0,.int .i64 0,.int .i64 0,.int .u8 0,.int .i64 0,.int .i64 0,.int .i64 0,.int .i64 0,.int .u8 0,.int .i64 0,.int .i64 0,.int .i64 0,.int .i64 0,.int .u8 0,.int .i64 0,.int .i64 0,.int .i64 0,.int .i64 0]
theorem Cm(W:World):(zeroValue 165).run Tryz.prog W= .ok (.agg Ub) W:=by kernel_rfl
theorem Cn(W:World):(zeroValue 164).run Tryz.prog W= .ok (.agg Uc) W:=by kernel_rfl
theorem gR{w':World}{o:Obj}(ho:an w.heap.size (w.alloc o) w'):Below w.heap.size w w':=((Below.refl _ _).alloc (Nat.le_refl _) o).trans (ho.below (Nat.le_refl _))
theorem z9(n:Nat)(hn:1<=n)(B:Nat)(G S I J:Int)(hm:aM G S I J=true):
  ll Fence.wide n Tryz.prog 90 #[.pointer (some ⟨B,0,none⟩)] (λk=> #[.agg (pw S (I/4) J k)]) (3+4*G.toNat) (λ_=>False) (iA B G S I J):=by
 obtain⟨h1,h2,h3,h4,h5,h6,h7,h8,h9,h10,h11⟩:=(aX G S I J).1 hm;obtain⟨g,rfl⟩:∃g:Nat,G=(g:Int):=⟨G.toNat,by omega⟩;rw[Int.toNat_natCast];intro l F Fx W Tn NM hY h0 hN;have HY:=hid hY;have HJO:=hid Tn;clear hY Tn NM;have hc0:W.cell? ⟨B,0,none⟩=some (.int .i64 (g:Int)):=hN.cell (i:=0) rfl;have hc1:W.cell? ⟨B,1,none⟩=some (.int .i64 S):=hN.cell (i:=1) rfl;have hc2:W.cell? ⟨B,2,none⟩=some (.int .i64 I):=hN.cell (i:=2) rfl;have hc3:W.cell? ⟨B,3,none⟩=some (.int .i64 J):=hN.cell (i:=3) rfl;have t1:=nI I h5;refine callsIn_of_wp Tryz.func90 rfl trivial ?_ rfl;simp only[Tryz.ntmps90,List.size_toArray,List.length_cons,List.length_nil,Nat.reduceAdd,Nat.reduceSub,Array.replicate_succ,Array.replicate_zero,List.push_toArray,List.append_toArray,List.nil_append,List.cons_append];have TV:Hid (∀k (A A':World),F k A->Below A.heap.size A A'->F k A'):=λk A A' h hb=>HJO.out k A _ h ⟨none,bq hb,λr e=>by cases e⟩
 have adC:=Cn;have hA0:=At.new W 164 Uc
 gi_wp2_with (first|(refine fy rfl 164 (.tmp 4) (.tmp 20) rfl W.heap.size (Tu J) Uc rfl rfl hA0 oY rfl (Ko J) ?_))
 intro w1 gJ vQ;have Zk:iA B g S I J 0 w1:=At.below hN (gR vQ) hN.lt;have Zv:=TV.out _ _ _ h0 (gR vQ);clear hc0 hc1 hc2 hc3 hA0 hN h0 vQ
 gi_wp2_with (first|(refine iL rfl 164 (.tmp 4) rfl W.heap.size (Tu J) _ rfl gJ Tryz.underlying164 rfl oY ?_))
 clear gJ
 gi_loopw [22] (λu wr=>∃k:Nat,k<=3/\u= .int .i64 (k:Int)/\F k wr/\iA B g S I J 0 wr) (λu _=>3-(intOf u).toNat)
 case atStart=>exact⟨0,by omega,rfl,Zv,Zk⟩
 case round=>
  clear Zv Zk;obtain⟨k,hk,rfl,hF,hnd⟩:=hrel
  by_cases hlt:k<3
  ·have KF:Hid (k=0/\pw S (I/4) J k=aI 1 0 0 1 0\/k=1/\pw S (I/4) J k=aI 2 0 1 1 0\/k=2/\pw S (I/4) J k=aI 3 0 2 J 0):=by
    have:k=0\/k=1\/k=2:=by omega
    rcases this with rfl|rfl|rfl
    ·exact .inl ⟨rfl,rfl⟩
    ·exact .inr (.inl ⟨rfl,rfl⟩)
    ·exact .inr (.inr ⟨rfl,rfl⟩)
   have NB:=λA h1 h2=>HY.out k A (by omega) h1 h2
   obtain⟨cs,hcs⟩:∃cs,pw S (I/4) J k=cs:=⟨_,rfl⟩;rw[hcs] at NB;have wV:=hid NB;have Jw:∀W,(Instr.index 164 (.agg (Tu J)) (.int .i64 (k:Int))).run Tryz.prog W= .ok (.agg cs) W:=λW=>by
    rcases KF.out with⟨rfl,e⟩|⟨rfl,e⟩|⟨rfl,e⟩
    ·rw[<-hcs,e];exact MU J W
    ·rw[<-hcs,e];exact MT J W
    ·rw[<-hcs,e];exact MR J W
   have rJ:cs.size=5:=by rcases KF.out with⟨rfl,e⟩|⟨rfl,e⟩|⟨rfl,e⟩<;>(rw[<-hcs,e];rfl)
   have hc1:cs.all (·.oneCell')=true:=by rcases KF.out with⟨rfl,e⟩|⟨rfl,e⟩|⟨rfl,e⟩<;>(rw[<-hcs,e];exact GK _ _ _ _ _)
   clear hcs KF NB;have Ay:(Tryz.prog.info? 117).map (·.size)=some cs.size:=by rw[rJ];exact oy
   have hA:=At.new wr 117 (aI 0 0 0 0 0);have hal:=nY;have hs0:(aI 0 0 0 0 0).size=cs.size:=by rw[rJ];rfl
   have l3:(k:Int)<3:=by omega
   have ze:Hid (F k wr/\iA B g S I J 0 wr):=⟨hF,hnd⟩;clear hF hnd rJ
   gi_wp2_with (first|(refine fy rfl 117 (.tmp 6) (.tmp 24) rfl wr.heap.size cs (aI 0 0 0 0 0) rfl rfl hA Ay hs0 hc1 ?_))
   intro w2 sD er;have Wt:iA B g S I J 0 w2:=At.below ze.out.2 (gR er) (At.lt ze.out.2);have hF2:=TV.out _ _ _ ze.out.1 (gR er);obtain⟨fn,tmps,assign,body,hy,hR⟩:=wV.out w2 hF2 Wt;clear ze hA er Jw wV hc1 hs0
   gi_wp2_with (first|(refine iL rfl 117 (.tmp 6) rfl wr.heap.size cs _ rfl sD Tryz.underlying117 rfl Ay ?_))
   refine hR.mono ?_;rintro e W3 (⟨rfl,hJ3,O2⟩|⟨rfl,AF⟩)
   ·gi_wp2
    go_roundw
    case rel=>exact⟨k+1,by omega,int_eq (by omega),hJ3,O2⟩
    case measure=>simp[intOf];omega
   ·gi_wp2
    refine bodyPost_ret (results_none rfl _ _ _) rfl ?_;exact⟨⟨_,rfl⟩,.inr ⟨k,by omega,AF⟩⟩
  ·obtain rfl:k=3:=by omega
   have hc0:wr.cell? ⟨B,0,none⟩=some (.int .i64 (g:Int)):=hnd.cell (i:=0) rfl
   gi_wp2
   clear hc0
   gi_loopw [32] (λu wr=>∃γ:Nat,γ<=g/\u= .int .i64 (γ:Int)/\F (3+4*γ) wr/\iA B g S I J 0 wr) (λu _=>g-(intOf u).toNat)
   case atStart=>exact⟨0,by omega,rfl,hF,hnd⟩
   case round=>
    clear hF hnd;obtain⟨γ,hγ,rfl,hF,hnd⟩:=hrel
    by_cases jX:γ<g
    ·have hc1:wr.cell? ⟨B,1,none⟩=some (.int .i64 S):=hnd.cell (i:=1) rfl
     have hc3:wr.cell? ⟨B,3,none⟩=some (.int .i64 J):=hnd.cell (i:=3) rfl;have VF:0<=(γ:Int)*S/\(γ:Int)*S<=2048:=by
      refine⟨Int.mul_nonneg (by omega) (by omega),?_⟩;have:=Int.mul_le_mul (show(γ:Int)<=4 by omega) h4 (by omega) (by omega:(0:Int)<=4);omega
     obtain⟨QT,Jz⟩:=VF;have l4:(γ:Int)<(g:Int):=by omega
     have Wk:=Cm;have ze:Hid (F (3+4*γ) wr/\iA B g S I J 0 wr):=⟨hF,hnd⟩;have hA0:=At.new wr 165 Ub;have HT4:Hid (0<=I/4/\I/4<=16):=by show _/\_;omega
     have zb:=hid (λi hi=>vv S (I/4) J γ (i:=i) hi);have TX:Hid (3+I/4<=S):=h10;clear hF hnd t1 h10;generalize I/4=t at*;obtain⟨ht0,ht1⟩:=HT4.out;have ht2:=TX.out;have e1:IntKind.i64.wrap ((γ:Int)*S)=(γ:Int)*S:=IntWalk.i64_in _ (by omega);have e2:IntKind.i64.wrap (2+J+(γ:Int)*S)=2+J+(γ:Int)*S:=IntWalk.i64_in _ (by omega);have e3:IntKind.i64.wrap (2+J+(γ:Int)*S+1)=2+J+(γ:Int)*S+1:=IntWalk.i64_in _ (by omega);have e4:IntKind.i64.wrap (2+J+(γ:Int)*S+2)=2+J+(γ:Int)*S+2:=IntWalk.i64_in _ (by omega);have e5:IntKind.i64.wrap (2+J+(γ:Int)*S+2+t)=2+J+(γ:Int)*S+2+t:=IntWalk.i64_in _ (by omega);have e6:IntKind.i64.wrap (S-2-t)=S-2-t:=IntWalk.i64_in _ (by omega);have e7:IntKind.i64.wrap (2+t)=2+t:=IntWalk.i64_in _ (by omega)
     gi_wp2_with (first|(refine fy rfl 165 (.tmp 9) (.tmp 68) rfl wr.heap.size (h20 γ (2+J+(γ:Int)*S) (2+J+(γ:Int)*S+1) (2+J+(γ:Int)*S+2) (2+J+(γ:Int)*S+2+t) t (S-2-t) (2+t)) Ub rfl rfl hA0 oX rfl (Kn _ _ _ _ _ _ _ _) ?_))
     intro w4 O6 kv;have Zj:iA B g S I J 0 w4:=At.below ze.out.2 (gR kv) (At.lt ze.out.2);have Zu:=TV.out _ _ _ ze.out.1 (gR kv);clear ze hA0 kv hc1 hc3 e1 e2 e3 e4 e5 e6 e7;obtain⟨p1,hp1⟩:∃p,2+J+(γ:Int)*S=p:=⟨_,rfl⟩;have KE:Hid (∀i:Nat,i<4->pw S t J (3+4*γ+i)=if i=0 then aI 4 γ p1 1 0 else if i=1 then aI 5 γ (p1+1) 1 1 else if i=2 then aI 6 γ (p1+2) t 2 else aI 7 γ (p1+2+t) (S-2-t) (2+t)):=λi hi=>by rw[zb.out i hi,hp1]
     rw[hp1] at O6 ⊢;clear zb hp1 QT Jz
     gi_wp2_with (first|(refine iL rfl 165 (.tmp 9) rfl wr.heap.size (h20 γ p1 (p1+1) (p1+2) (p1+2+t) t (S-2-t) (2+t)) _ rfl O6 Tryz.underlying165 rfl oX ?_))
     clear O6 Wk
     gi_loopw [70] (λu wr=>∃i:Nat,i<=4/\u= .int .i64 (i:Int)/\F (3+4*γ+i) wr/\iA B g S I J 0 wr) (λu _=>4-(intOf u).toNat)
     case atStart=>exact⟨0,by omega,rfl,Zu,Zj⟩
     case round=>
      clear Zu Zj;obtain⟨i,hi,rfl,hF,hnd⟩:=hrel
      by_cases QH:i<4
      ·have KF:Hid (i=0/\pw S t J (3+4*γ+i)=aI 4 γ p1 1 0\/i=1/\pw S t J (3+4*γ+i)=aI 5 γ (p1+1) 1 1\/i=2/\pw S t J (3+4*γ+i)=aI 6 γ (p1+2) t 2\/i=3/\pw S t J (3+4*γ+i)=aI 7 γ (p1+2+t) (S-2-t) (2+t)):=by
        have:i=0\/i=1\/i=2\/i=3:=by omega
        rcases this with rfl|rfl|rfl|rfl
        ·exact .inl ⟨rfl,KE.out 0 (by omega)⟩
        ·exact .inr (.inl ⟨rfl,KE.out 1 (by omega)⟩)
        ·exact .inr (.inr (.inl ⟨rfl,KE.out 2 (by omega)⟩))
        ·exact .inr (.inr (.inr ⟨rfl,KE.out 3 (by omega)⟩))
       have NB:=λA h1 h2=>HY.out (3+4*γ+i) A (by omega) h1 h2
       obtain⟨cs,hcs⟩:∃cs,pw S t J (3+4*γ+i)=cs:=⟨_,rfl⟩;rw[hcs] at NB;have wV:=hid NB;have Jw:∀W,(Instr.index 165 (.agg (h20 γ p1 (p1+1) (p1+2) (p1+2+t) t (S-2-t) (2+t))) (.int .i64 (i:Int))).run Tryz.prog W= .ok (.agg cs) W:=λW=>by
        rcases KF.out with⟨rfl,e⟩|⟨rfl,e⟩|⟨rfl,e⟩|⟨rfl,e⟩
        ·rw[<-hcs,e];exact MP _ _ _ _ _ _ _ _ W
        ·rw[<-hcs,e];exact MO _ _ _ _ _ _ _ _ W
        ·rw[<-hcs,e];exact MN _ _ _ _ _ _ _ _ W
        ·rw[<-hcs,e];exact MM _ _ _ _ _ _ _ _ W
       have rJ:cs.size=5:=by rcases KF.out with⟨rfl,e⟩|⟨rfl,e⟩|⟨rfl,e⟩|⟨rfl,e⟩<;>(rw[<-hcs,e];rfl)
       have hc1:cs.all (·.oneCell')=true:=by rcases KF.out with⟨rfl,e⟩|⟨rfl,e⟩|⟨rfl,e⟩|⟨rfl,e⟩<;>(rw[<-hcs,e];exact GK _ _ _ _ _)
       clear hcs KF NB;have Ay:(Tryz.prog.info? 117).map (·.size)=some cs.size:=by rw[rJ];exact oy
       have hA:=At.new wr 117 (aI 0 0 0 0 0);have hal:=nY;have hs0:(aI 0 0 0 0 0).size=cs.size:=by rw[rJ];rfl
       have l5:(i:Int)<4:=by omega
       have ze:Hid (F (3+4*γ+i) wr/\iA B g S I J 0 wr):=⟨hF,hnd⟩;clear hF hnd rJ
       gi_wp2_with (first|(refine fy rfl 117 (.tmp 11) (.tmp 72) rfl wr.heap.size cs (aI 0 0 0 0 0) rfl rfl hA Ay hs0 hc1 ?_))
       intro w2 sD er;have Wt:iA B g S I J 0 w2:=At.below ze.out.2 (gR er) (At.lt ze.out.2);have hF2:=TV.out _ _ _ ze.out.1 (gR er);obtain⟨fn,tmps,assign,body,hy,hR⟩:=wV.out w2 hF2 Wt;clear ze hA er Jw wV hc1 hs0
       gi_wp2_with (first|(refine iL rfl 117 (.tmp 11) rfl wr.heap.size cs _ rfl sD Tryz.underlying117 rfl Ay ?_))
       refine hR.mono ?_;rintro e W3 (⟨rfl,hJ3,O2⟩|⟨rfl,AF⟩)
       ·gi_wp2
        go_roundw
        case rel=>exact⟨i+1,by omega,int_eq (by omega),hJ3,O2⟩
        case measure=>simp[intOf];omega
       ·gi_wp2
        refine bodyPost_ret (results_none rfl _ _ _) rfl ?_;exact⟨⟨_,rfl⟩,.inr ⟨3+4*γ+i,by omega,AF⟩⟩
      ·obtain rfl:i=4:=by omega
       have l5:¬((4:Nat):Int)<4:=by omega
       gi_wp2
       go_roundw
       case rel=>
        rw[show 3+4*γ+4=3+4*(γ+1) by omega] at hF;exact⟨_,_,_,_,.int .i64 ((γ:Int)+1),⟨γ+1,by omega,int_eq (by omega),hF⟩,rfl,rfl,rfl,rfl,rfl⟩
       case measure=>simp[intOf];omega
    ·obtain rfl:γ=g:=by omega
     have l4:¬(γ:Int)<(γ:Int):=by omega
     gi_wp2
     refine bodyPost_end (results_none rfl _ _ _) rfl ?_;exact⟨⟨_,rfl⟩,.inl (hF)⟩
end
namespace Mv
def sO(o:Oper):Bool:=match o.op with| .store _ _ _=>true|_=>eZ o
section
variable {F:Fence} {m:Nat} {P:Program} {ops:Array Oper} {md:Region.Mode} {σ:Type} {C:σ->World->Prop}
theorem sM(ho:sO o=true)(a:Act)(w:World)(f:FuncId)(args:Array Value)(w':World):(execOp a.eval o).run P w≠ .ok (.enter f args) w':=by
 unfold sO at ho;split at ho
 ·rename_i ty x y hop
  unfold execOp;simp only[hop,Sem.run_bind];intro h;cases hr:(Instr.storeAt ty (a.eval x) (a.eval y)).run P w with
  |ok u w1=>rw[hr] at h;simp[Result.andThen,Sem.run_pure] at h
  |halt e w1=>rw[hr] at h;simp[Result.andThen] at h
 ·exact kN ho a w f args w'
theorem uR(ho:sO o=true)(c):o.op≠ .call c:=by
 intro h;unfold sO at ho;rw[h] at ho;unfold eZ at ho;rw[h] at ho;cases ho
theorem sN(ho:sO o=true)(c):o.op≠ .defer c:=by
 intro h;unfold sO at ho;rw[h] at ho;unfold eZ at ho;rw[h] at ho;cases ho
theorem sK(ht:ops.all sO=true){s:σ}{K:σ->Act->Prop}{K':Act->World->Prop}(hC:C s w)(h:∀s a w',C s w'->K s a->K' a w')(hh:dE P ops C i K s a):wpOpIn F m P ops Q' i K' a w:=by
 unfold dE at hh;unfold wpOpIn;split
 ·rename_i ho;simp only[ho] at hh;exact h _ _ _ hC hh
 ·rename_i o ho
  simp only[ho] at hh;have Lg:sO o=true:=by
   rw[Array.all_eq_true_iff_forall_mem] at ht;exact ht o (Array.mem_of_getElem? ho)
  have hab:∀f,o.about P w a.eval=some f->F.fn f:=by
   intro f hf;unfold Oper.about at hf;split at hf
   ·rename_i c hc;exact absurd hc (uR Lg c)
   ·cases hf
  rcases hh with⟨hw,hy⟩|⟨hw,hk⟩
  ·simp only[hw,if_true]
   unfold Oper.wpIn;refine⟨hab,?_⟩;rw[Oper.semAt_plain F _ _ (sN Lg)];have hne:=λf args w'=>sM (P:=P) Lg a w f args w'
   rcases hy with⟨_,hk⟩|⟨_,v,hs,hk⟩
   ·have h3:=hk w hC
    generalize (execOp a.eval o).run P w=r at*;cases r with
    |ok n w'=>
     cases n<;>simp only[cH] at h3<;>simp only[Oper.uponIn]
     ·obtain⟨s',h4,h5⟩:=h3;exact h _ _ _ h4 h5
     ·obtain⟨s',h4,h5⟩:=h3;exact h _ _ _ h4 h5
     ·exact absurd rfl (hne _ _ _)
    |halt x w'=>simp only[cH] at h3
   ·have h3:=hs w ⟨_,hC⟩
    generalize (execOp a.eval o).run P w=r at*;cases r with
    |ok n w'=>
     cases n<;>simp only[stillUpon] at h3<;>simp only[Oper.uponIn]
     ·obtain⟨rfl,rfl⟩:=h3;exact h _ _ _ hC hk
     ·obtain⟨rfl,rfl⟩:=h3;exact h _ _ _ hC hk
    |halt x w'=>simp only[stillUpon] at h3
  ·rw[if_neg (by rw[hw];decide)]
   exact⟨hab,h _ _ _ hC hk⟩
theorem kC(ht:ops.all sO=true){Q:σ->Act->Prop}(hQ:∀s a w,C s w->Q s a->Q' .normal a w):∀(fuel:Nat) (listed:Array Bool) (s:σ) (a:Act) (w:World),C s w->
  wpAnyL P md ops C Q fuel listed s a->wpAnyIn F m P md ops Q' fuel listed a w
 |0,_,_,_,_,hw,h=>⟨h.1,hQ _ _ _ hw h.2⟩
 |fuel+1,_,_,_,_,hw,h=>⟨λh0=>hQ _ _ _ hw (h.1 h0),λi hi=>sK ht hw (λs' a' w' hw'=>kC ht hQ fuel _ s' a' w' hw') (h.2 i hi)⟩
theorem qt(C:σ->World->Prop)(s:σ){id:Nat}{l:List Oper}(hm:P.follows .mixedOrders=true)(hB:Region.lexB .any l.toArray=true)(hch:j3 .any l.toArray=true)(ht:l.toArray.all sO=true)(hC:C s {w with drawn:=w.drawn+1})
  (h:Nonempty (aT λw=>∃s,C s w)->cZ P l.toArray C (λs a'=>∀w',C s w'->Q .normal a' w') l s a):(Code.region id l.toArray true).wpIn F m P Q a w:=by
 simp only[Region.lexB,Bool.and_eq_true] at hB;refine wpIn_region_any hm (kC ht (Q:=λs a'=>∀w',C s w'->Q .normal a' w') (λ_ _ w' hw' h=>h w' hw') _ _ s _ _ hC ?_);have:=ft (C:=C) (md:=.any) iy hch hB.1 l 0 (Array.replicate l.toArray.size false) s a ⟨_,hC⟩ (λj oj hj hl=>by
   rcases Nat.lt_or_ge j l.toArray.size with h'|h'
   ·rw[List.size_toArray] at h';simp[h'] at hl
   ·rw[List.size_toArray] at h';simp[h'] at hl) (λj hj=>by omega) (by simp) (by simpa using hB.2) (h ⟨⟨_,s,hC⟩⟩)
 simpa using this
theorem fj{Q:σ->Act->Prop}{s:σ}(hw:Region.wanted o (yielded ops a.tmps)=true)(ty:TypeId)(x y:Operand)(ho:o.op= .store ty x y)
  (b off:Nat) (v:Value) (hx:a.eval x= .pointer (some ⟨b,off,none⟩)) (hy:a.eval y=v) (hi:(P.info? ty).map (·.size)=some 1) (h1:v.oneCell'=true) (s':σ)
  (hc:∀w,C s w->(∃u,w.cell? ⟨b,off,none⟩=some u)/\w.frozen? ⟨b,off,none⟩=false/\C s' (w.setCell ⟨b,off,none⟩ v))
  (hk:cZ P ops C Q rest s' (a.put o.dst undef)):cZ P ops C Q (o::rest) s a:=
 rp hw (by unfold mv eZ;rw[ho];rfl) λw hC=>by
  obtain⟨⟨u,hu⟩,hf,JM⟩:=hc w hC;unfold execOp;simp only[ho,hx,hy,Instr.storeAt,Instr.sureAddr,Sem.run_bind,Sem.run_pure,Result.andThen_ok,iY w b off ty u v hu hf hi h1];exact⟨s',JM,hk⟩
end
end Mv
section
attribute [local go_sem] Oper.semAt_some
theorem Fe{S t J:Int}(h1:16<=S)(h2:S<=512)(h3:0<=t)(h4:3+t<=S)(h5:40<=J)(h6:J<=256)(hg:g<=4)(k:Nat)(hk:k<3+4*g):
  ∃K Gg Fr Sz Pl:Int,pw S t J k=aI K Gg Fr Sz Pl/\(0<=Fr/\0<=Sz/\Fr+Sz<=2+J+g*S/\0<=Pl/\Pl<=512/\Fr+Sz<=4000/\0<=K/\K<=7)/\
   (k=0/\Fr+Sz=1/\K=1\/k=1/\Fr+Sz=2/\K=2\/k=2/\Fr+Sz=2+J/\K=3\/3<=k/\2+J<=Fr+Sz/\4<=K/\K<=7/\(k+1=3+4*g->Fr+Sz=2+J+g*S)):=by
 have QT:0<=(g:Int)*S:=Int.mul_nonneg (by omega) (by omega);have Jz:(g:Int)*S<=4*512:=Int.mul_le_mul (by omega) h2 (by omega) (by omega)
 by_cases c0:k=0
 ·subst c0;exact⟨1,0,0,1,0,rfl,by omega,by omega⟩
 by_cases c1:k=1
 ·subst c1;exact⟨2,0,1,1,0,rfl,by omega,by omega⟩
 by_cases c2:k=2
 ·subst c2;exact⟨3,0,2,J,0,rfl,by omega,by omega⟩
 obtain⟨γ,i,hi,rfl⟩:∃γ i,i<4/\k=3+4*γ+i:=⟨(k-3)/4,(k-3)%4,by omega,by omega⟩;have hγ:γ+1<=g:=by omega
 have hm0:0<=(γ:Int)*S:=Int.mul_nonneg (by omega) (by omega);have BH:((γ:Int)+1)*S<=(g:Int)*S:=Int.mul_le_mul_of_nonneg_right (by omega) (by omega);rw[Int.add_mul,Int.one_mul] at BH;have hlast:γ+1=g->(γ:Int)*S+S=(g:Int)*S:=λe=>by rw[<-e];rw[show((γ+1:Nat):Int)=(γ:Int)+1 by omega,Int.add_mul,Int.one_mul]
 rw[vv S t J γ hi];generalize (γ:Int)*S=a at*;generalize (g:Int)*S=b at*;have:i=0\/i=1\/i=2\/i=3:=by omega
 rcases this with rfl|rfl|rfl|rfl
 ·exact⟨4,γ,2+J+a,1,0,rfl,by omega,by omega⟩
 ·exact⟨5,γ,2+J+a+1,1,1,rfl,by omega,by omega⟩
 ·exact⟨6,γ,2+J+a+2,t,2,rfl,by omega,by omega⟩
 ·refine⟨7,γ,2+J+a+2+t,S-2-t,2+t,rfl,by omega,.inr (.inr (.inr ⟨by omega,by omega,by omega,by omega,λe=> ?_⟩))⟩
  have:=hlast (by omega);omega
theorem At.setCell(h:At w g T cs)(i:Nat)(v:Value):At (w.setCell ⟨g,i,none⟩ v) g T (cs.setIfInBounds i v):=by
 obtain⟨hlt,hk⟩:=Array.getElem?_eq_some_iff.1 h;show(w.heap.modify g _)[g]? =_;rw[Array.getElem?_eq_getElem (by rw[Array.size_modify];exact hlt),Array.getElem_modify_self,hk]
 rfl
structure sF(w:World)(G S I J x K A B:Int)(W:World):Prop where
 g:At W w.heap.size 23 (aa G S I J)
 x:At W (w.heap.size+1) 3 #[.int .i64 x]
 k:At W (w.heap.size+2) 5 #[.int .u8 K]
 a:At W (w.heap.size+3) 3 #[.int .i64 A]
 b:At W (w.heap.size+4) 3 #[.int .i64 B]
 bel:Below w.heap.size w W
section
variable {w:World} {G S I J x K A B:Int} {W W':World}
theorem sF.below(h:sF w G S I J x K A B W)(hb:Below W.heap.size W W'):sF w G S I J x K A B W':=⟨h.g.below hb h.g.lt,h.x.below hb h.x.lt,h.k.below hb h.k.lt,h.a.below hb h.a.lt,h.b.below hb h.b.lt,h.bel.trans (hb.mono h.bel.size)⟩
theorem sF.sz(h:sF w G S I J x K A B W):w.heap.size+5<=W.heap.size:=h.b.lt
theorem sF.IC(h:sF w G S I J x K A B W)(v:Int):sF w G S I J x v A B (W.setCell ⟨w.heap.size+2,0,none⟩ (.int .u8 v)):=
 have ho:=an.setCell W ⟨w.heap.size+2,0,none⟩ (.int .u8 v)
 ⟨h.g.only ho (by simp),h.x.only ho (by simp),h.k.setCell 0 _,h.a.only ho (by simp),h.b.only ho (by simp),h.bel.trans (ho.below (by simp))⟩
theorem sF.m8(h:sF w G S I J x K A B W)(v:Int):sF w G S I J x K v B (W.setCell ⟨w.heap.size+3,0,none⟩ (.int .i64 v)):=
 have ho:=an.setCell W ⟨w.heap.size+3,0,none⟩ (.int .i64 v)
 ⟨h.g.only ho (by simp),h.x.only ho (by simp),h.k.only ho (by simp),h.a.setCell 0 _,h.b.only ho (by simp),h.bel.trans (ho.below (by simp))⟩
theorem sF.m7(h:sF w G S I J x K A B W)(v:Int):sF w G S I J x K A v (W.setCell ⟨w.heap.size+4,0,none⟩ (.int .i64 v)):=
 have ho:=an.setCell W ⟨w.heap.size+4,0,none⟩ (.int .i64 v)
 ⟨h.g.only ho (by simp),h.x.only ho (by simp),h.k.only ho (by simp),h.a.only ho (by simp),h.b.setCell 0 _,h.bel.trans (ho.below (by simp))⟩
theorem sF.loc{B0:Nat}(hB:w.heap.size+5<=B0):aw B0 (sF w G S I J x K A B):=λA' C hs hg=>
 ⟨aw.at _ _ (by omega) A' C hs.g hg,aw.at _ _ (by omega) A' C hs.x hg,aw.at _ _ (by omega) A' C hs.k hg,aw.at _ _ (by omega) A' C hs.a hg,aw.at _ _ (by omega) A' C hs.b hg,aw.below w (by omega) (Nat.le_refl _) A' C hs.bel hg⟩
end
theorem CY(G S I J:Int)(w:World):Calls Tryz.prog 44 #[bN G S I J] w λe w'=>e= .returned (.func (.func 90) #[] #[.pointer (some ⟨w.heap.size,0,none⟩)])/\At w' w.heap.size 23 (aa G S I J)/\Below w.heap.size w w':=by
 have hA:=hid (At.new w 23 (aa G S I J));have hL:Hid (Below w.heap.size w (w.alloc (.cells (aa G S I J) 23))):=(Below.refl _ _).alloc (Nat.le_refl _) _;go_enter Tryz.func44,Tryz.ntmps44;go_wp2_with fail;go_ret;exact⟨rfl,hA.out,hL.out⟩
structure AW(w:World)(G S I J x K A B:Int)(p:Nat)(cs:Array Value)(B0:Nat)(W0:World)(t:Mv.St)(W:World):Prop where
 s:sF w G S I J x (if t.n>=1 then K else 0) (if t.n>=2 then A else 0) (if t.n>=3 then B else 0) W
 p:At W p 117 cs
 iG:KeepsFrom B0 W0 W
section
variable {w:World} {G S I J x K A B:Int} {p:Nat} {cs:Array Value} {B0:Nat} {W0 W:World}
theorem At.cR{W:World}{q:Nat}{U:TypeId}{ds:Array Value}(h:At W p T cs)(k:At W q U ds)(hT:T≠U):p≠q:=by
 intro e;subst e;have:=h.symm.trans k;injection this with this
 injection this with _ h2 _
 exact hT h2
theorem AW.s1(h:AW w G S I J x K A B p cs B0 W0 ⟨0,undef⟩ W):AW w G S I J x K A B p cs B0 W0 ⟨1,undef⟩ (W.setCell ⟨w.heap.size+2,0,none⟩ (.int .u8 K)):=
 have ho:=an.setCell W ⟨w.heap.size+2,0,none⟩ (.int .u8 K)
 ⟨h.s.IC K,h.p.only ho (At.cR h.p h.s.k (by decide)),h.iG.trans (ho.keeps (h.s.k.cell (i:=0) rfl))⟩
theorem AW.s2(h:AW w G S I J x K A B p cs B0 W0 ⟨1,undef⟩ W):AW w G S I J x K A B p cs B0 W0 ⟨2,undef⟩ (W.setCell ⟨w.heap.size+3,0,none⟩ (.int .i64 A)):=
 have ho:=an.setCell W ⟨w.heap.size+3,0,none⟩ (.int .i64 A)
 ⟨h.s.m8 A,h.p.only ho (At.cR h.p h.s.a (by decide)),h.iG.trans (ho.keeps (h.s.a.cell (i:=0) rfl))⟩
theorem AW.s3(h:AW w G S I J x K A B p cs B0 W0 ⟨2,undef⟩ W):AW w G S I J x K A B p cs B0 W0 ⟨3,undef⟩ (W.setCell ⟨w.heap.size+4,0,none⟩ (.int .i64 B)):=
 have ho:=an.setCell W ⟨w.heap.size+4,0,none⟩ (.int .i64 B)
 ⟨h.s.m7 B,h.p.only ho (At.cR h.p h.s.b (by decide)),h.iG.trans (ho.keeps (h.s.b.cell (i:=0) rfl))⟩
end
theorem yh:(Tryz.prog.info? 3).map (·.size)=some 1:=by kernel_rfl
end
theorem jq{W:World}{n:Nat}{size:Nat}(h:W.ownsRow base e size v n xs)(hn:0<n):∃g cap,v= .slice (some ⟨g,0,none⟩) n cap:=by
 rcases h.2 with⟨_,h0⟩|⟨g',cap',cur,hv,_⟩
 ·omega
 ·exact⟨g',cap',hv⟩
theorem eT{W W':World}{k:Nat}{size:Nat}(h:W.ownsRow base e size v k xs)(ho:an p W W')(hp:v.ownBlock≠some p):W'.ownsRow base e size v k xs:=by
 refine⟨h.1,?_⟩;rcases h.2 with h'|⟨g',cap',cur,hv,hbb,hg,hr⟩
 ·exact .inl h'
 ·exact .inr ⟨g',cap',cur,hv,hbb,(ho.block g' (λe=>hp (by rw[hv,e];rfl))).trans hg,hr⟩
end Go.Proofs.YtphamecphmbipaaGreatDoor
