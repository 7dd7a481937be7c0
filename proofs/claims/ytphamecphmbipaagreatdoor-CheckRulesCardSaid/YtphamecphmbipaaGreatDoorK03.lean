/- Texts of this claim, merged. -/
import Derived.Test.YtphamecphmbipaaGreatDoorK02
import Derived.Shelf.Abstract
import Derived.TacticsInMore
import Derived.LoopNIn
import Derived.LoopIn
import Derived.Lib.LazyBuf
import Derived.Laws.OwnMore
set_option linter.unusedVariables false
set_option maxRecDepth 100000
set_option maxHeartbeats 16000000

namespace Go.Proofs.YtphamecphmbipaaGreatDoor
open Go.RowKit
open Lib (hid)
variable {w w':World} {ops:Array Oper} {rest:List Oper} {o:Oper} {a:Act} {Q:Exit->Act->World->Prop} {g:Nat} {T:TypeId}
theorem BD:(Tryz.prog.info? 5).map (λi=>(i.zero,i.size,i.bytes))=some (some (.int .u8 0),1,1):=by kernel_rfl
theorem zF(hgd:o.guard=none)(s x:Operand)
  (ho:o.op= .call {callee:=.builtin .append,args:=#[s,x],argTypes:=#[119,119]}) (base:Nat)
  (sa:Option Addr) (n cap:Nat) (z:Nat->Int) (hs:a.eval s= .slice sa n cap) (hown:gB w base 5 sa n cap z)
  (xa:Option Addr) (m c:Nat) (y:Nat->Int) (hx:a.eval x= .slice xa m c) (hc:xa=none->c=0) (hr:Row w xa m y)
  (hm:n+m<=140737488355328) (hbase:base<=w.heap.size)
  (h:∀Mn cap' w',gB w' base 5 Mn (n+m) cap' (cat z n y)->w.grownBy w' (Value.slice sa n cap).ownBlock->(Mn=none->n+m=0)->wpList Tryz.prog ops Q rest (a.put o.dst (.slice Mn (n+m) cap')) w'):
  wpList Tryz.prog ops Q (o::rest) a w:=by
 obtain⟨i0,hi,hz0,hz1,hz2⟩:=info_parts BD;exact lO hgd s x _ ho base _ i0 Tryz.underlying119 hi hz0 hz1 hz2 sa n cap z hs hown xa m c y hx hc hr hm hbase h
def zM(a:Option Addr)(k cap:Nat):Option Addr:=if cap=k then a else a.map (·.add k)
theorem Row.slice{a:Option Addr}{len cap k:Nat}{z:Nat->Int}(h:Row w a len z)(hk:k<=len)(hc:len<=cap):Row w (zM a k cap) (len-k) (λi=>z (k+i)):=by
 by_cases h0:len-k=0
 ·exact .inl h0
 ·rcases h with h|⟨b,off,rfl,hs⟩
  ·omega
  ·unfold zM
   rw[if_neg (by omega)];refine .inr ⟨b,off+k,?_,hs.sub k _ (by omega)⟩;simp only[Option.map_some,Addr.add]
   by_cases ke:k=0
   ·subst ke;rw[if_pos rfl,Nat.add_zero]
   ·rw[if_neg ke]
theorem qK(a:Option Addr)(len cap k:Nat)(K:Int)(hK:K=(k:Int))(hk:k<=len)(w:World):
  (Instr.slice 119 (.slice a len cap) (some (.int .i64 K)) none none).run Tryz.prog w= .ok (.slice (zM a k cap) (len-k) (cap-k)) w:=by
 subst hK;have hsz:(Go.sizeOf 5).run Tryz.prog w= .ok 1 w:=by kernel_rfl
 rw[run_slice_l w 119 a len cap (by kernel_rfl) .i64 (k:Int) (by omega) (by omega),show Tryz.prog.elem 119=5 from by kernel_rfl,hsz];simp only[Result.andThen,sliced,zM,Int.toNat_natCast,Nat.mul_one]
structure aK where
 kind:Int
 aJ:Int
 gen:Int
 size:Int
 p:Nat->Int
 next:Int
abbrev aK.val(x:aK):Value:=.agg #[.int .u8 x.kind,.int .i64 x.aJ,.int .u32 x.gen,.int .i64 x.size,.int .u32 (x.p 0),.int .u32 (x.p 1),.int .u32 (x.p 2),.int .u32 (x.p 3),.int .u32 (x.p 4),.int .u32 (x.p 5),.int .u32 (x.p 6),.int .u32 (x.p 7),.int .u32 (x.p 8),.int .u32 (x.p 9),.int .u32 (x.p 10),.int .u32 x.next]
structure aK.Ok(x:aK):Prop where
 kind:0<=x.kind/\x.kind<256
 aJ:-9223372036854775808<=x.aJ/\x.aJ<=9223372036854775807
 gen:0<=x.gen/\x.gen<4294967296
 size:-9223372036854775808<=x.size/\x.size<=9223372036854775807
 p:∀i,0<=x.p i/\x.p i<4294967296
 next:0<=x.next/\x.next<4294967296
def aK.ki(x:aK):Prop:=
 (x.kind=0/\x.aJ=0/\x.size=0/\x.next=0/\de x.p 11=true)\/
 (x.kind=1/\0<=x.aJ/\x.aJ<=1000/\0<=x.size/\x.size<=16777216)\/
 (x.kind=2/\x.aJ=1/\0<=x.size/\x.size<=16777216/\x.size%256=0/\x.next=0)
instance (x:aK):Decidable x.ki:=by unfold aK.ki;infer_instance
def yc(x y:aK):Bool:=x.kind==y.kind&&(x.aJ==y.aJ&&(x.gen==y.gen&&(x.size==y.size&&(me x.p y.p 11&&x.next==y.next))))
theorem Dg(x y:aK):yc x y=true↔x.kind=y.kind/\x.aJ=y.aJ/\x.gen=y.gen/\x.size=y.size/\(∀i,i<11->x.p i=y.p i)/\x.next=y.next:=by
 unfold yc;simp only[Bool.and_eq_true,beq_iff_eq,iT]
theorem xA(x y:aK)(w:World):(binOp .eql 63 x.val y.val).run Tryz.prog w= .ok (.bool (yc x y)) w:=by
 obtain⟨i,hi,_⟩:=info_parts (show(Tryz.prog.info? 45).map (λi=>(i.zero,i.size,i.bytes))=some (some (.int .u32 0),1,4) by kernel_rfl);have hS:Tryz.prog.underlying 63=some (.struct (Tryz.prog.fieldsOf 63)):=by kernel_rfl
 have hp:Tryz.prog.stoodInHeld 63=false:=by kernel_rfl
 have ha:=λw=>fU (P:=Tryz.prog) w 9997 (t:=61) (e:=45) (n:=11) (k:=.u32) Tryz.underlying61 hi Tryz.underlying45 (by kernel_rfl) x.p y.p
 have ex:∀u:Nat->Int,(Ks .u32 11 u).toArray= #[.int .u32 (u 0),.int .u32 (u 1),.int .u32 (u 2),.int .u32 (u 3),.int .u32 (u 4),.int .u32 (u 5),.int .u32 (u 6),.int .u32 (u 7),.int .u32 (u 8),.int .u32 (u 9),.int .u32 (u 10)]:=λu=>rfl
 rw[ex,ex] at ha;rw[run_eql_struct,show(10000:Nat)=9999+1 from rfl,run_equalIn_agg w 9999 _ _ _ hS hp];simp only[Program.fieldsOf,Tryz.underlying63];clear hi hS hp ex
 go_simp
 clear ha;unfold yc
 by_cases h1:x.kind=y.kind
 rotate_left
 ·simp[*]
 by_cases h2:x.aJ=y.aJ
 rotate_left
 ·simp[*]
 by_cases h3:x.gen=y.gen
 rotate_left
 ·simp[*]
 by_cases h4:x.size=y.size
 rotate_left
 ·simp[*]
 cases h5:me x.p y.p 11 with
 |false=>simp[h1,h2,h3,h4]
 |true=>
  by_cases h6:x.next=y.next
  ·simp[h1,h2,h3,h4,h6]
  ·have h7:(x.next==y.next)=false:=by simp[h6]
   simp[h1,h2,h3,h4,h6]
def bX(a:Int):Bool:=decide (a=0\/a=64\/a=128\/a=192)
theorem eo(a:Int):bX a=true↔a=0\/a=64\/a=128\/a=192:=by simp[bX]
theorem lB{a:Int}(h:¬(a=0\/a=64\/a=128\/a=192)):bX a=false:=by simp only[bX,decide_eq_false_iff_not];exact h
theorem CX(a:Int)(w:World)(h0:-9223372036854775808<=a)(h1:a<=9223372036854775807):
  Calls Tryz.prog 48 #[.int .i64 a] w λe w'=>e= .returned (.bool (bX a))/\w=w':=by
 by_cases c1:0<=a
 ·by_cases c2:a<256
  ·by_cases c3:a%64=0
   ·have q:(a%64==0)=true:=by simp[c3]
    have hd:Hid (bX a=true):=(eo a).2 (by omega);clear c3;go_enter Tryz.func48,Tryz.ntmps48
    go_wp2
    go_ret;exact⟨aC hd.out.symm,rfl⟩
   ·have q:(a%64==0)=false:=by simp[c3]
    have hd:Hid (bX a=false):=lB (by omega);clear c3;go_enter Tryz.func48,Tryz.ntmps48
    go_wp2
    go_ret;exact⟨aC hd.out.symm,rfl⟩
  ·have hd:Hid (bX a=false):=lB (by omega)
   go_enter Tryz.func48,Tryz.ntmps48
   go_wp2
   go_ret;exact⟨aC hd.out.symm,rfl⟩
 ·have hd:Hid (bX a=false):=lB (by omega)
  go_enter Tryz.func48,Tryz.ntmps48
  go_wp2
  go_ret;exact⟨aC hd.out.symm,rfl⟩
theorem P9(l g s n:Int)(p:Nat->Int):decide (aK.ki ⟨0,l,g,s,p,n⟩)=yc ⟨0,l,g,s,p,n⟩ ⟨0,0,g,0,λ_=>0,0⟩:=by
 rw[Bool.eq_iff_iff,Dg,decide_eq_true_eq];unfold aK.ki;simp only[jz];constructor
 ·rintro(⟨_,h1,h2,h3,h4⟩|⟨h,_⟩|⟨h,_⟩)
  ·exact⟨trivial,h1,trivial,h2,h4,h3⟩
  ·omega
  ·omega
 ·rintro⟨_,h1,_,h2,h4,h3⟩
  exact .inl ⟨trivial,h1,h2,h3,h4⟩
theorem lW(l g s n:Int)(p:Nat->Int):decide (aK.ki ⟨1,l,g,s,p,n⟩)=decide (0<=l/\l<=1000/\0<=s/\s<=16777216):=by
 rw[decide_eq_decide];unfold aK.ki;simp
theorem iR(l g s n:Int)(p:Nat->Int):decide (aK.ki ⟨2,l,g,s,p,n⟩)=decide (l=1/\0<=s/\s<=16777216/\s%256=0/\n=0):=by
 rw[decide_eq_decide];unfold aK.ki;simp
theorem Lb(k l g s n:Int)(p:Nat->Int)(h:k≠0/\k≠1/\k≠2):decide (aK.ki ⟨k,l,g,s,p,n⟩)=false:=by
 rw[decide_eq_false_iff_not];unfold aK.ki;simp only;omega
theorem I6(x:aK)(hx:x.Ok)(w:World):
  Calls Tryz.prog 53 #[x.val] w λe w'=>e= .returned (.bool (decide x.ki))/\Below w.heap.size w w':=by
 obtain⟨k,l,g,s,p,n⟩:=x;obtain⟨⟨ke,hk1⟩,⟨hl0,yo⟩,_,⟨hs0,hs1⟩,_,_⟩:=hx;dsimp only at ke hk1 hl0 yo hs0 hs1;dsimp only[aK.val];have fin:∀t,Hid (Below w.heap.size w (w.alloc t)):=λt=>(Below.refl _ _).alloc (Nat.le_refl _) _
 generalize hD':decide (aK.ki ⟨k,l,g,s,p,n⟩)=D;have hD:=hid hD';clear hD'
 by_cases k0:k=0
 ·subst k0
  have hq:=λw=>xA ⟨0,l,g,s,p,n⟩ ⟨0,0,g,0,λ_=>0,0⟩ w
  dsimp only[aK.val] at hq;have HD:=hD.out;rw[P9] at HD;rw[HD] at hq;clear HD;go_enter Tryz.func53,Tryz.ntmps53
  go_wp2
  go_ret;exact⟨rfl,(fin _).out⟩
 have q0:(k==0)=false:=by simp[k0]
 by_cases k2:k=2
 ·subst k2
  by_cases c1:l=1
  ·subst c1
   by_cases c4:0<=s
   ·by_cases c2:s%256=0
    ·have d2:(s%256 !=0)=false:=by simp[c2]
     by_cases c3:n=0
     ·subst c3
      by_cases c5:s<=16777216
      ·have HD:Hid (D=true):=by show D=true;rw[<-hD.out,iR];simp;omega
       clear c2;go_enter Tryz.func53,Tryz.ntmps53
       go_wp2
       go_ret;exact⟨aC HD.out.symm,(fin _).out⟩
      ·have HD:Hid (D=false):=by show D=false;rw[<-hD.out,iR];simp;omega
       clear c2;go_enter Tryz.func53,Tryz.ntmps53
       go_wp2
       go_ret;exact⟨aC HD.out.symm,(fin _).out⟩
     ·have HD:Hid (D=false):=by show D=false;rw[<-hD.out,iR];simp;omega
      have d3:(n !=0)=true:=by simp[c3]
      clear c2 c3;go_enter Tryz.func53,Tryz.ntmps53
      go_wp2
      go_ret;exact⟨aC HD.out.symm,(fin _).out⟩
    ·have HD:Hid (D=false):=by show D=false;rw[<-hD.out,iR];simp;omega
     have d2:(s%256 !=0)=true:=by simp[c2]
     clear c2;go_enter Tryz.func53,Tryz.ntmps53
     go_wp2
     go_ret;exact⟨aC HD.out.symm,(fin _).out⟩
   ·by_cases c2:s.tmod 256=0
    ·have d2:(s.tmod 256 !=0)=false:=by simp[c2]
     by_cases c3:n=0
     ·subst c3
      have HD:Hid (D=false):=by show D=false;rw[<-hD.out,iR];simp;omega
      clear c2;go_enter Tryz.func53,Tryz.ntmps53
      go_wp2
      go_ret;exact⟨aC HD.out.symm,(fin _).out⟩
     ·have HD:Hid (D=false):=by show D=false;rw[<-hD.out,iR];simp;omega
      have d3:(n !=0)=true:=by simp[c3]
      clear c2 c3;go_enter Tryz.func53,Tryz.ntmps53
      go_wp2
      go_ret;exact⟨aC HD.out.symm,(fin _).out⟩
    ·have HD:Hid (D=false):=by show D=false;rw[<-hD.out,iR];simp;omega
     have d2:(s.tmod 256 !=0)=true:=by simp[c2]
     clear c2;go_enter Tryz.func53,Tryz.ntmps53
     go_wp2
     go_ret;exact⟨aC HD.out.symm,(fin _).out⟩
  ·have HD:Hid (D=false):=by show D=false;rw[<-hD.out,iR];simp;omega
   have d1:(l !=1)=true:=by simp[c1]
   clear c1;go_enter Tryz.func53,Tryz.ntmps53
   go_wp2
   go_ret;exact⟨aC HD.out.symm,(fin _).out⟩
 have q2:(k==2)=false:=by simp[k2]
 by_cases k1:k=1
 ·subst k1
  by_cases c1:0<=l
  ·by_cases c2:l<=1000
   ·by_cases c3:0<=s
    ·by_cases c4:s<=16777216
     ·have HD:Hid (D=true):=by show D=true;rw[<-hD.out,lW];simp;omega
      go_enter Tryz.func53,Tryz.ntmps53
      go_wp2
      go_ret;exact⟨aC HD.out.symm,(fin _).out⟩
     ·have HD:Hid (D=false):=by show D=false;rw[<-hD.out,lW];simp;omega
      go_enter Tryz.func53,Tryz.ntmps53
      go_wp2
      go_ret;exact⟨aC HD.out.symm,(fin _).out⟩
    ·have HD:Hid (D=false):=by show D=false;rw[<-hD.out,lW];simp;omega
     go_enter Tryz.func53,Tryz.ntmps53
     go_wp2
     go_ret;exact⟨aC HD.out.symm,(fin _).out⟩
   ·have HD:Hid (D=false):=by show D=false;rw[<-hD.out,lW];simp;omega
    go_enter Tryz.func53,Tryz.ntmps53
    go_wp2
    go_ret;exact⟨aC HD.out.symm,(fin _).out⟩
  ·have HD:Hid (D=false):=by show D=false;rw[<-hD.out,lW];simp;omega
   go_enter Tryz.func53,Tryz.ntmps53
   go_wp2
   go_ret;exact⟨aC HD.out.symm,(fin _).out⟩
 have q1:(k==1)=false:=by simp[k1]
 have HD:Hid (D=false):=by show D=false;rw[<-hD.out];exact Lb _ _ _ _ _ _ (by omega)
 go_enter Tryz.func53,Tryz.ntmps53
 go_wp2
 go_ret;exact⟨aC HD.out.symm,(fin _).out⟩
def aK.word(x:aK)(k:Nat):Int:=if k=0 then x.gen else if k=1 then x.size else if k<13 then x.p (k-2) else x.next
def aK.byte(x:aK)(i:Nat):Int:=
 if i=0 then x.kind else if i=1 then 0 else if i<4 then byteOf x.aJ (i-2) else if i<60 then byteOf (x.word ((i-4)/4)) ((i-4)%4) else 0
def aK.jj(x:aK)(m:Nat)(i:Nat):Int:=if i<4+4*m then x.byte i else 0
theorem aK.tC(x:aK)(i:Nat):x.jj 14 i=x.byte i:=by
 unfold aK.jj;split
 ·rfl
 ·unfold aK.byte;rw[if_neg (by omega),if_neg (by omega),if_neg (by omega),if_neg (by omega)]
theorem aK.jH(x:aK)(z:Nat->Int)(at' m:Nat)(hm:m<14)(i:Nat):
  over (over z at' 64 (x.jj m)) (at'+(4+4*m)) 4 (byteOf (x.word m)) i=over z at' 64 (x.jj (m+1)) i:=by
 by_cases h1:at'<=i/\i<at'+64
 ·rw[gl z _ _ _ _ h1]
  by_cases h2:at'+(4+4*m)<=i/\i<at'+(4+4*m)+4
  ·rw[gl _ _ _ _ _ h2]
   unfold aK.jj;rw[if_pos (by omega)];unfold aK.byte;rw[if_neg (by omega),if_neg (by omega),if_neg (by omega),if_pos (by omega),show(i-at'-4)/4=m by omega]
   congr 1;omega
  ·rw[bY _ _ _ _ _ (by omega),gl z _ _ _ _ h1]
   unfold aK.jj
   by_cases h3:i-at'<4+4*m
   ·rw[if_pos h3,if_pos (by omega)]
   ·rw[if_neg h3,if_neg (by omega)]
 ·rw[bY z _ _ _ _ (by omega),bY _ _ _ _ _ (by omega),bY z _ _ _ _ (by omega)]
theorem aK.zJ(x:aK)(z:Nat->Int)(at':Nat)(i:Nat):
  over (over (over z at' 64 (λ_=>0)) at' 1 (λ_=>x.kind)) (at'+2) 2 (byteOf x.aJ) i=over z at' 64 (x.jj 0) i:=by
 by_cases h1:at'<=i/\i<at'+64
 ·rw[gl z at' 64 i (x.jj 0) h1]
  unfold aK.jj aK.byte
  by_cases h2:at'+2<=i/\i<at'+2+2
  ·rw[gl _ _ _ _ _ h2,if_pos (by omega),if_neg (by omega),if_neg (by omega),if_pos (by omega),show i-(at'+2)=i-at'-2 by omega]
  ·rw[bY _ _ _ _ _ (by omega)]
   by_cases h3:i=at'
   ·rw[gl _ _ _ _ _ ⟨by omega,by omega⟩,if_pos (by omega),if_pos (by omega)]
   ·rw[bY _ _ _ _ _ (by omega),gl z _ _ _ _ h1]
    by_cases h4:i-at'<4+4*0
    ·rw[if_pos h4,if_neg (by omega),if_pos (by omega)]
    ·rw[if_neg h4]
 ·rw[bY _ _ _ _ _ (by omega),bY _ _ _ _ _ (by omega),bY z _ _ _ _ (by omega),bY z _ _ _ _ (by omega)]
theorem aK.mA{x:aK}(h:x.ki):(0<=x.size/\x.size<=16777216)/\(0<=x.aJ/\x.aJ<=1000)/\(x.kind=0\/x.kind=1\/x.kind=2):=by
 rcases h with⟨h1,h2,h3,_⟩|⟨h1,h2,h3,h4,h5⟩|⟨h1,h2,h3,h4,_⟩<;>omega
theorem aK.uy{x:aK}(hx:x.Ok)(hk:x.kind=0\/x.kind=1\/x.kind=2)(m:Nat):bm (x.jj m):=by
 intro i;unfold aK.jj;split
 ·unfold aK.byte
  split
  ·omega
  ·split
   ·omega
   ·split
    ·exact gg _ _
    ·split
     ·exact gg _ _
     ·omega
 ·omega
abbrev aK.arr(x:aK):Array Value:=#[.int .u8 x.kind,.int .i64 x.aJ,.int .u32 x.gen,.int .i64 x.size,.int .u32 (x.p 0),.int .u32 (x.p 1),.int .u32 (x.p 2),.int .u32 (x.p 3),.int .u32 (x.p 4),.int .u32 (x.p 5),.int .u32 (x.p 6),.int .u32 (x.p 7),.int .u32 (x.p 8),.int .u32 (x.p 9),.int .u32 (x.p 10),.int .u32 x.next]
def aY(w:World)(g:Nat)(T:TypeId)(x:aK):Prop:=w.heap[g]? =some (.cells x.arr T (0,0))
theorem aY.lt{x:aK}(h:aY w g T x):g<w.heap.size:=(Array.getElem?_eq_some_iff.1 h).1
theorem aY.cell{x:aK}(h:aY w g T x){i:Nat}{v:Value}(hi:x.arr[i]? =some v):w.cell? ⟨g,i,none⟩=some v:=ay h hi
theorem aY.below{x:aK}(h:aY w g T x){B:Nat}(hb:Below B w w')(hg:g<B):aY w' g T x:=(hb.block g hg).trans h
theorem aY.only{x:aK}(h:aY w g T x){b:Nat}(hb:an b w w')(hg:g≠b):aY w' g T x:=(hb.block g hg).trans h
theorem aY.ptr{x:aK}(h:aY w g T x)(i:Nat)(hi:i<11):w.cell? ⟨g,4+i,none⟩=some (.int .u32 (x.p i)):=by
 refine h.cell ?_;obtain rfl|rfl|rfl|rfl|rfl|rfl|rfl|rfl|rfl|rfl|rfl:i=0\/i=1\/i=2\/i=3\/i=4\/i=5\/i=6\/i=7\/i=8\/i=9\/i=10:=by omega
 all_goals rfl
section
open Go.Shelf
attribute [local go_sem] Oper.semAt_some
theorem AR(w:World)(v:Value)(t:TypeId):(w.alloc (.cells #[v] t)).cell? ⟨w.heap.size,0,none⟩=some v:=by
 simp only[World.cell?,heap_alloc_new];rfl
theorem DM(a:Option Addr)(len cap:Nat)(z:Nat->Int)(w:World)(hr:Row w a len z)(hc:a=none->cap=0/\len=0)(hl:len<=140737488355328)(base:Nat)(hb:base<=w.heap.size):
  Calls Tryz.prog 93 #[.slice a len cap] w λe w'=>∃sa cap',e= .returned (.slice sa len cap')/\gB w' base 5 sa len cap' z/\Below w.heap.size w w':=by
 have hq:=λw=>run_eql_slice_nil (P:=Tryz.prog) w 119 5 a len cap Tryz.underlying119
 have hcz:Hid (cat (λ_=>0) 0 z=z):=by show _=_;funext i;simp[cat]
 cases a with
 |none=>
  obtain⟨rfl,rfl⟩:=hc rfl;go_enter Tryz.func93,Tryz.ntmps93;go_wp2_with fail;go_ret;exact⟨none,0,rfl,gB.nil _ _ _ _,Below.refl _ _⟩
 |some x=>
  go_enter Tryz.func93,Tryz.ntmps93;go_wp2_with (at_builtin;refine zF rfl (.tmp 5) (.tmp 6) rfl base _ 0 0 (λ_=>0) rfl (gB.made w base _ _ hb) (some x) len cap z rfl (λh=>by cases h) (hr.alloc _) (by omega) (by simp;omega) ?_)
  intro sa cap' w1 hm hg _;rw[hcz.out] at hm;go_wp2_with fail;go_ret;exact⟨sa,cap',rfl,hm,((Below.refl _ _).alloc (Nat.le_refl _) _).grown hg (by simp) (λk hk=>by cases hk;exact Nat.le_refl _)⟩
def sh(B:Nat)(sa:Option Addr)(len cap:Nat)(z:Nat->Int):Nat->World->Prop:=λ_ W=>W.cell? ⟨B,0,none⟩=some (.slice sa len cap)/\Row W sa len z
def uQ(z:Nat->Int)(k:Nat):Array Value:=#[.int .i64 (4*(k:Int)),.int .u32 (b9 z (4*k))]
theorem sI(l:Nat)(W:World):(binOp .eql 171 (.func (.yield l) #[] #[]) .nilFunc).run Tryz.prog W= .ok (.bool false) W:=by kernel_rfl
theorem Cx(n:Nat)(hn:1<=n)(B:Nat)(sa:Option Addr)(len cap:Nat)(z:Nat->Int)(hz:bm z)(hl:(len:Int)<=140737488355328):
  ll Fence.wide n Tryz.prog 94 #[.pointer (some ⟨B,0,none⟩)] (uQ z) (len/4) (λ_=>False) (sh B sa len cap z):=by
 intro l J Jx W _ _ hY h0 hN;have HY:=hid hY;clear hY;have hnil:=λW=>sI l W
 refine callsIn_of_wp Tryz.func94 rfl trivial ?_ rfl;simp only[Tryz.ntmps94,List.size_toArray,List.length_cons,List.length_nil,Nat.reduceAdd,Nat.reduceSub,Array.replicate_succ,Array.replicate_zero,List.push_toArray,List.append_toArray,List.nil_append,List.cons_append]
 gi_wp2
 gi_loopw [3] (λi wr=>∃k:Nat,k<=len/4/\i= .int .i64 (4*(k:Int))/\J k wr/\sh B sa len cap z k wr) (λi _=>len+4-(intOf i).toNat)
 case atStart=>exact⟨0,Nat.zero_le _,rfl,h0,hN⟩
 case round=>
  obtain⟨k,hk,rfl,hJ,hnd⟩:=hrel;have hcB:=hnd.1;have hrow:=hnd.2;have HND:=hid hnd;clear hnd
  by_cases hlt:k<len/4
  ·have f4:Hid (fits 4 len (4*(k:Int))=true):=yE ⟨by omega,by omega⟩
   have e4:Hid ((4*(k:Int)).toNat=4*k):=by show _=_;omega
   obtain⟨fn,tmps,assign,body,hy,hR⟩:=HY.out k wr hlt hJ HND.out;dsimp only[uQ] at hy;have HHY:=hid hy;clear hy
   gi_wp2_with (refine⟨trivial,?_⟩;gi_at_call 51;refine(callsIn_wide.2 (ub _ _ _ _ z _ (by omega) (by exact hrow) hz)).mono ?_;rintro e w' ⟨rfl,rfl⟩;rw[PY,f4.out,if_pos rfl,e4.out];have hy:=HHY.out)
   refine hR.mono ?_;rintro e W3 (⟨rfl,hJ3,O2⟩|⟨rfl,AF⟩)
   ·gi_wp2
    go_roundw
    case rel=>exact⟨k+1,by omega,int_eq (by omega),hJ3,O2⟩
    case measure=>simp[intOf];omega
   ·gi_wp2
    refine bodyPost_ret (results_none rfl _ _ _) rfl ?_;exact⟨⟨_,rfl⟩,.inr ⟨k,hlt,AF⟩⟩
  ·have HK:Hid (k=len/4):=by show _=_;omega
   have f4:Hid (fits 4 len (4*(k:Int))=false):=BL (by omega)
   gi_wp2_with (refine⟨trivial,?_⟩;gi_at_call 51;refine(callsIn_wide.2 (ub _ _ _ _ z _ (by omega) (by exact hrow) hz)).mono ?_;rintro e w' ⟨rfl,rfl⟩;rw[PY,f4.out,if_neg (by decide)])
   refine⟨λ_ h=>(by cases h),?_⟩
   gi_wp2
   refine bodyPost_ret (results_none rfl _ _ _) rfl ?_;exact⟨⟨_,rfl⟩,.inl (by rw[<-HK.out];exact hJ)⟩
theorem Ez(a:Option Addr)(len cap:Nat)(z:Nat->Int)(w:World)(hr:Row w a len z)(hc:a=none->cap=0/\len=0)(hl:len<=140737488355328):
  Calls Tryz.prog 52 #[.slice a len cap] w λe w'=>∃B sa cap',e= .returned (.func (.func 94) #[] #[.pointer (some ⟨B,0,none⟩)])/\sh B sa len cap' z 0 w'/\Below w.heap.size w w'
   /\w.heap.size<=B/\B<w'.heap.size/\(∀x,sa=some x->w.heap.size<=x.block/\x.block<w'.heap.size):=by
 go_enter Tryz.func52,Tryz.ntmps52;go_wp2_with fail;refine(DM a len cap z w hr hc hl w.heap.size (Nat.le_refl _)).mono ?_;rintro e w1 ⟨sa,cap',rfl,hm,hb⟩;have hsz:=hb.size;go_wp2_with fail;go_ret;exact⟨w1.heap.size,sa,cap',rfl,⟨AR _ _ _,hm.row.alloc _⟩,hb.alloc hsz _,hsz,by simp,λx hx=>by have:=hm.le x hx;simp;omega⟩
end
theorem I8(n:Nat):(madeCells (Value.int .u8 0).cells (n*1)).toList=Bs n (λ_=>0):=by
 rw[show(Value.int .u8 0).cells= #[.int .u8 0] from rfl,Nat.mul_one,toList_madeCells_one];apply List.ext_getElem?;intro i
 by_cases h:i<n
 ·rw[mO _ _ _ h];simp[h]
 ·rw[List.getElem?_eq_none (by simp;omega),List.getElem?_eq_none (by rw[fw];omega)]
theorem Ev(hgd:o.guard=none)(l c:Operand)
  (ho:o.op=Op.makeSlice 119 l c) (base:Nat) (L:Int) (n:Nat) (hl:a.eval l= .int .i64 L) (hc:a.eval c= .int .i64 L) (hL:L=(n:Int)) (hn:n<=140737488355328) (hbase:base<=w.heap.size)
  (h:∀w',gB w' base 5 (some ⟨w.heap.size,0,none⟩) n n (λ_=>0)->w.grownBy w' none->wpList Tryz.prog ops Q rest (a.put o.dst (.slice (some ⟨w.heap.size,0,none⟩) n n)) w'):
  wpList Tryz.prog ops Q (o::rest) a w:=by
 obtain⟨i0,hi,hz0,hz1,hz2⟩:=info_parts BD;refine wpList_make_full w hgd l c _ ho base _ i0 (.int .u8 0) 1 Tryz.underlying119 hi hz0 hz1 _ _ L L n hl hc hL hL (by rw[hz2];omega) (by unfold maxLen;omega) hbase ?_;intro w' h1 h2;rw[I8] at h1;exact h w' h1 h2
theorem ml(a:Int)(w:World):
  Calls Tryz.prog 102 #[.int .i64 a] w λe w'=>e= .returned (.bool (bX a))/\w=w':=by
 by_cases c1:a=0
 ·subst c1
  have hd:Hid (bX 0=true):=(eo _).2 (by omega);go_enter Tryz.func102,Tryz.ntmps102
  go_wp2
  go_ret;exact⟨aC hd.out.symm,rfl⟩
 have q1:(a==0)=false:=by simp[c1]
 by_cases c2:a=64
 ·subst c2
  have hd:Hid (bX 64=true):=(eo _).2 (by omega);go_enter Tryz.func102,Tryz.ntmps102
  go_wp2
  go_ret;exact⟨aC hd.out.symm,rfl⟩
 have q2:(a==64)=false:=by simp[c2]
 by_cases c3:a=128
 ·subst c3
  have hd:Hid (bX 128=true):=(eo _).2 (by omega);go_enter Tryz.func102,Tryz.ntmps102
  go_wp2
  go_ret;exact⟨aC hd.out.symm,rfl⟩
 have q3:(a==128)=false:=by simp[c3]
 by_cases c4:a=192
 ·subst c4
  have hd:Hid (bX 192=true):=(eo _).2 (by omega);go_enter Tryz.func102,Tryz.ntmps102
  go_wp2
  go_ret;exact⟨aC hd.out.symm,rfl⟩
 ·have q4:(a==192)=false:=by simp[c4]
  have hd:Hid (bX a=false):=lB (by omega);clear c1 c2 c3 c4;go_enter Tryz.func102,Tryz.ntmps102
  go_wp2
  go_ret;exact⟨aC hd.out.symm,rfl⟩
theorem MG(l g s n:Int)(p:Nat->Int):decide (aK.ki ⟨0,l,g,s,p,n⟩)=((l==0&&(s==0&&n==0))&&de p 11):=by
 rw[Bool.eq_iff_iff,decide_eq_true_eq];unfold aK.ki;simp only[Bool.and_eq_true,beq_iff_eq];constructor
 ·rintro(⟨_,h1,h2,h3,h4⟩|⟨h,_⟩|⟨h,_⟩)
  ·exact⟨⟨h1,h2,h3⟩,h4⟩
  ·omega
  ·omega
 ·rintro⟨⟨h1,h2,h3⟩,h4⟩
  exact .inl ⟨trivial,h1,h2,h3,h4⟩
theorem Mt(l g s n:Int)(p:Nat->Int)(w:World):
  Calls Tryz.prog 103 #[(aK.mk 0 l g s p n).val] w λe w'=>e= .returned (.bool (decide (aK.ki ⟨0,l,g,s,p,n⟩)))/\Below w.heap.size w w':=by
 rw[MG];dsimp only[aK.val];generalize hb0:(l==0&&(s==0&&n==0))=b0;have pn:=hid hb0;clear hb0;have h00:Hid (de p 0=true):=rfl;have fin:∀t,Hid (Below w.heap.size w (w.alloc t)):=λt=>(Below.refl _ _).alloc (Nat.le_refl _) _
 have U5:Hid (∀k,k<11->(w.alloc (.cells (aK.mk 0 l g s p n).arr 63)).cell? ⟨w.heap.size,4+k,none⟩=some (.int .u32 (p k))):=λk hk=>
  aY.ptr (x:=aK.mk 0 l g s p n) (T:=63) (heap_alloc_new w _) k hk
 have start:(l==0)=true/\(s==0)=true/\(n==0)=true/\b0=true\/(l==0)=false/\b0=false\/(l==0)=true/\(s==0)=false/\b0=false\/(l==0)=true/\(s==0)=true/\(n==0)=false/\b0=false:=by
  have:=pn.out;cases h1:(l==0)<;>cases h2:(s==0)<;>cases h3:(n==0)<;>rw[h1,h2,h3] at this<;>simp[<-this]
 rcases start with⟨q1,q2,q3,hb⟩|⟨q1,hb⟩|⟨q1,q2,hb⟩|⟨q1,q2,q3,hb⟩
 all_goals
  subst hb;clear pn;go_enter Tryz.func103,Tryz.ntmps103
  go_wp2
  go_loop [3,4] (λu i=>∃k:Nat,k<=11/\i= .int .i64 (k:Int)/\∃b:Bool,Hid (b=(_&&de p k))/\u= .bool b) (λ_ i=>11-(intOf i).toNat)
  case atStart=>exact⟨0,by omega,rfl,_,(by first|(exact(Bool.true_and _).symm)|(exact(Bool.false_and _).symm)),rfl⟩
  case round=>
   obtain⟨k,hk,rfl,b,hb,rfl⟩:=hrel
   by_cases hlt:k<11
   ·have hc:=U5.out k hlt
    dsimp only[aK.arr] at hc;cases b with
    |false=>
     go_wp2
     go_round
     case rel=>exact⟨k+1,by omega,by go_num,_,(by show _=_;rw[ig,<-Bool.and_assoc,<-hb.out];rfl),rfl⟩
     case measure=>simp[intOf];omega
    |true=>
     by_cases hp:p k=0
     ·have q:(p k==0)=true:=by simp[hp]
      have HP:=hid hp;clear hp
      go_wp2
      all_goals
       go_round
       case rel=>exact⟨k+1,by omega,by go_num,_,(by show _=_;rw[ig,<-Bool.and_assoc,<-hb.out,HP.out];rfl),rfl⟩
       case measure=>simp[intOf];omega
     ·have q:(p k==0)=false:=by simp[hp]
      have HP:Hid (decide (p k=0)=false):=by show _=_;simp[hp]
      clear hp
      go_wp2
      all_goals
       go_round
       case rel=>exact⟨k+1,by omega,by go_num,_,(by show _=_;rw[ig,<-Bool.and_assoc,<-hb.out,HP.out];rfl),rfl⟩
       case measure=>simp[intOf];omega
   ·obtain rfl:k=11:=by omega
    go_wp2
    go_ret;exact⟨aC hb.out,(fin _).out⟩
theorem qP(x:aK)(hx:x.Ok)(w:World):
  Calls Tryz.prog 103 #[x.val] w λe w'=>e= .returned (.bool (decide x.ki))/\Below w.heap.size w w':=by
 obtain⟨k,l,g,s,p,n⟩:=x;obtain⟨⟨ke,hk1⟩,⟨hl0,yo⟩,_,⟨hs0,hs1⟩,_,_⟩:=hx;dsimp only at ke hk1 hl0 yo hs0 hs1;have fin:∀t,Hid (Below w.heap.size w (w.alloc t)):=λt=>(Below.refl _ _).alloc (Nat.le_refl _) _
 by_cases k0:k=0
 ·subst k0
  exact Mt l g s n p w
 dsimp only[aK.val];generalize hD':decide (aK.ki ⟨k,l,g,s,p,n⟩)=D;have hD:=hid hD';clear hD';have q0:(k==0)=false:=by simp[k0]
 by_cases k1:k=1
 ·subst k1
  by_cases c1:0<=l
  ·by_cases c2:l<=1000
   ·by_cases c3:0<=s
    ·by_cases c4:s<=16777216
     ·have HD:Hid (D=true):=by show D=true;rw[<-hD.out,lW];simp;omega
      go_enter Tryz.func103,Tryz.ntmps103
      go_wp2
      go_ret;exact⟨aC HD.out.symm,(fin _).out⟩
     ·have HD:Hid (D=false):=by show D=false;rw[<-hD.out,lW];simp;omega
      go_enter Tryz.func103,Tryz.ntmps103
      go_wp2
      go_ret;exact⟨aC HD.out.symm,(fin _).out⟩
    ·have HD:Hid (D=false):=by show D=false;rw[<-hD.out,lW];simp;omega
     go_enter Tryz.func103,Tryz.ntmps103
     go_wp2
     go_ret;exact⟨aC HD.out.symm,(fin _).out⟩
   ·have HD:Hid (D=false):=by show D=false;rw[<-hD.out,lW];simp;omega
    go_enter Tryz.func103,Tryz.ntmps103
    go_wp2
    go_ret;exact⟨aC HD.out.symm,(fin _).out⟩
  ·have HD:Hid (D=false):=by show D=false;rw[<-hD.out,lW];simp;omega
   go_enter Tryz.func103,Tryz.ntmps103
   go_wp2
   go_ret;exact⟨aC HD.out.symm,(fin _).out⟩
 have q1:(k==1)=false:=by simp[k1]
 by_cases k2:k=2
 ·subst k2
  by_cases c1:l=1
  ·subst c1
   by_cases c2:0<=s
   ·by_cases c3:s<=16777216
    ·by_cases c4:s%256=0
     ·by_cases c5:n=0
      ·subst c5
       have HD:Hid (D=true):=by show D=true;rw[<-hD.out,iR];simp;omega
       have d2:(s%256==0)=true:=by simp[c4]
       clear c4;go_enter Tryz.func103,Tryz.ntmps103
       go_wp2
       go_ret;exact⟨aC HD.out.symm,(fin _).out⟩
      ·have HD:Hid (D=false):=by show D=false;rw[<-hD.out,iR];simp;omega
       have d2:(s%256==0)=true:=by simp[c4]
       have d3:(n==0)=false:=by simp[c5]
       clear c4 c5;go_enter Tryz.func103,Tryz.ntmps103
       go_wp2
       go_ret;exact⟨aC HD.out.symm,(fin _).out⟩
     ·have HD:Hid (D=false):=by show D=false;rw[<-hD.out,iR];simp;omega
      have d2:(s%256==0)=false:=by simp[c4]
      clear c4;go_enter Tryz.func103,Tryz.ntmps103
      go_wp2
      go_ret;exact⟨aC HD.out.symm,(fin _).out⟩
    ·have HD:Hid (D=false):=by show D=false;rw[<-hD.out,iR];simp;omega
     go_enter Tryz.func103,Tryz.ntmps103
     go_wp2
     go_ret;exact⟨aC HD.out.symm,(fin _).out⟩
   ·have HD:Hid (D=false):=by show D=false;rw[<-hD.out,iR];simp;omega
    go_enter Tryz.func103,Tryz.ntmps103
    go_wp2
    go_ret;exact⟨aC HD.out.symm,(fin _).out⟩
  ·have HD:Hid (D=false):=by show D=false;rw[<-hD.out,iR];simp;omega
   have d1:(l==1)=false:=by simp[c1]
   clear c1;go_enter Tryz.func103,Tryz.ntmps103
   go_wp2
   go_ret;exact⟨aC HD.out.symm,(fin _).out⟩
 have q2:(k==2)=false:=by simp[k2]
 have HD:Hid (D=false):=by show D=false;rw[<-hD.out];exact Lb _ _ _ _ _ _ (by omega)
 go_enter Tryz.func103,Tryz.ntmps103
 go_wp2
 go_ret;exact⟨aC HD.out.symm,(fin _).out⟩
end Go.Proofs.YtphamecphmbipaaGreatDoor
