/- Texts of this claim, merged. -/
import Derived.Test.YtphamecphmbipaaGreatDoorZ25
set_option linter.unusedVariables false
set_option maxRecDepth 100000
set_option maxHeartbeats 16000000

namespace Go.Proofs.YtphamecphmbipaaGreatDoor
open Go.RowKit
variable {a:Option Addr} {len cap m:Nat} {p:List MemPlace} {f:Nat->List Value}
section
open Go.ChangeShapes Go.WideShapes Go.ChangeAt Go.Deep
theorem ints_in{H:Type}{enc:TypeId×Value->H}{W:World}{d:DataW H}(h:DataW.Trod enc Tryz.prog W 0 (λ_=>true) true 37 (.slice a len cap) d p):
  ∃m:Nat->Int,cU W a 1 len (Tw m)/\(∀i,-9223372036854775808<=m i/\m i<=9223372036854775807)/\(len:Int)<=9223372036854775807/\(a=none->len=0/\cap=0):=by
 obtain⟨fuel,hf⟩:=h;rcases open_ints Tryz.underlying37 Tryz.underlying3 (by kernel_rfl) hf with⟨hcs,_⟩|⟨x,l,c,zs,hcs,_,hl,hm,hz,_,hcell,hwz⟩
 ·simp[Value.cells] at hcs
  obtain⟨rfl,rfl,rfl⟩:=hcs;exact⟨λ_=>0,.inl rfl,λ_=>⟨(by decide:(-9223372036854775808:Int)<=0),(by decide:(0:Int)<=9223372036854775807)⟩,by omega,λ_=>⟨rfl,rfl⟩⟩
 simp[Value.cells] at hcs;obtain⟨rfl,rfl,rfl⟩:=hcs;have hmax:maxLen=9223372036854775807:=rfl;have hzl:len<=zs.length:=by rw[hz];split<;>omega
 refine⟨λi=>zs.getD i 0,?_,?_,by omega,λh=>by cases h⟩
 ·by_cases h0:len=0
  ·exact .inl h0
  obtain⟨b,off,spot⟩:=x;have hc:=hcell 0 (by omega);have hspot:spot=none:=by simpa[Addr.add] using World.cell?_spot hc
  subst hspot;refine .inr ⟨b,off,rfl,λi hi j v hv=> ?_⟩;have hc:=hcell i (by omega);rw[bA] at hc;cases j with
  |zero=>rw[Nat.mul_one,Nat.add_zero,hc];exact hv
  |succ j=>cases hv
 intro i;show _<=zs.getD i 0/\zs.getD i 0<=_
 by_cases hi:i<zs.length
 ·exact bounds_i64 (hwz (zs.getD i 0) (by rw[List.getD_eq_getElem?_getD,List.getElem?_eq_getElem hi];exact List.getElem_mem _))
 have:zs.getD i 0=0:=by rw[List.getD_eq_getElem?_getD,List.getElem?_eq_none (by omega)];rfl
 rw[this];decide
theorem rows_in{H:Type}{enc:TypeId×Value->H}{W:World}{d:DataW H}(h:DataW.Trod enc Tryz.prog W 0 (λ_=>true) true 36 (.slice a len cap) d p):
  ∃(rb rf:Nat->Int) (rm:Nat->Bool),cU W a 3 len (Ic rb rf rm)/\(∀i,-9223372036854775808<=rb i/\rb i<=9223372036854775807)/\(∀i,0<=rf i/\rf i<256)/\(len:Int)<=9223372036854775807/\(∀b off,a=some ⟨b,off,none⟩->0<len->b<W.heap.size):=by
 obtain⟨fuel,hf⟩:=h;rcases open_slice Tryz.underlying36 hf with⟨hcs,_⟩|⟨x,l,c,m,nn,DD,Pl,hcs,_,hl,hm,hmm,_,hall⟩
 ·simp[Value.cells] at hcs
  obtain⟨rfl,rfl,rfl⟩:=hcs;exact⟨λ_=>0,λ_=>0,λ_=>false,.inl rfl,λ_=>⟨(by decide:(-9223372036854775808:Int)<=0),(by decide:(0:Int)<=9223372036854775807)⟩,λ_=>⟨Int.le_refl 0,(by decide:(0:Int)<256)⟩,by omega,λb off e=>by cases e⟩
 simp[Value.cells] at hcs;obtain⟨rfl,rfl,rfl⟩:=hcs;have hmax:maxLen=9223372036854775807:=rfl;have hlm:len<=m:=by rw[hmm];split<;>omega
 have hce:Tryz.prog.cellsOf 40=3:=by kernel_rfl
 rw[hce] at hall;have key:∀i,i<len->∃(b e:Int) (g:Bool),W.cell? (x.add (i*3))=some (.int .i64 b)/\W.cell? (x.add (i*3+1))=some (.int .u8 e)/\W.cell? (x.add (i*3+2))=some (.bool g)/\(-9223372036854775808<=b/\b<=9223372036854775807)/\0<=e/\e<256:=by
  intro i hi;obtain⟨cs',h1,h2⟩:=hall i (by omega);obtain⟨_,hlen,hcell⟩:=World.cells?_some h1;obtain⟨xs,k,_,_,_,hxl,hfl⟩:=DataW.trod_struct Tryz.underlying40 h2
  match xs,hxl,cs',hlen with
  |[y0,y1,y2],_,[v0,v1,v2],_=>
   have g0:=hfl 0 _ rfl;have g1:=hfl 1 _ rfl;have g2:=hfl 2 _ rfl;have wA:Tryz.prog.cellsOf 3=1:=by kernel_rfl
   have NT:Tryz.prog.cellsOf 5=1:=by kernel_rfl
   have hcb:Tryz.prog.cellsOf 4=1:=by kernel_rfl
   simp[wA,NT,hcb] at g0 g1 g2;obtain⟨b,e0,_,wb⟩:=DataW.trod_int Tryz.underlying3 g0;obtain⟨e,e1,_,we⟩:=DataW.trod_int Tryz.underlying5 g1;obtain⟨g,e2,_⟩:=DataW.trod_bool Tryz.underlying4 g2;simp at e0 e1 e2;have bb:=bounds_i64 wb;have be:=bounds_u8 we;have c0:=hcell 0 (by omega);have c1:=hcell 1 (by omega);have c2:=hcell 2 (by omega);rw[add_add] at c0 c1 c2;exact⟨b,e,g,by simpa[e0] using c0,by simpa[e1] using c1,by simpa[e2] using c2,bb,by omega,by omega⟩
 refine⟨λi=>if hi:i<len then(key i hi).choose else 0,λi=>if hi:i<len then(key i hi).choose_spec.choose else 0,λi=>if hi:i<len then(key i hi).choose_spec.choose_spec.choose else false,?_,?_,?_,by omega,?_⟩
 ·by_cases h0:len=0
  ·exact .inl h0
  obtain⟨b,off,spot⟩:=x;have hc:=(key 0 (by omega)).choose_spec.choose_spec.choose_spec.1;have hspot:spot=none:=by simpa[Addr.add] using World.cell?_spot hc
  subst hspot;refine .inr ⟨b,off,rfl,λi hi j v hv=> ?_⟩;have hk:=(key i hi).choose_spec.choose_spec.choose_spec;have hj3:j<3:=(List.getElem?_eq_some_iff.1 hv).1;unfold Ic at hv;simp only[hi,dif_pos] at hv;rw[Nat.add_assoc,<-bA];obtain rfl|rfl|rfl:j=0\/j=1\/j=2:=by omega
  ·rw[<-hv];exact hk.1
  ·rw[<-hv];exact hk.2.1
  rw[<-hv];exact hk.2.2.1
 ·intro i
  by_cases hi:i<len
  ·simp only[hi,dif_pos];exact(key i hi).choose_spec.choose_spec.choose_spec.2.2.2.1
  simp only[hi,dif_neg,not_false_eq_true];decide
 ·intro i
  by_cases hi:i<len
  ·simp only[hi,dif_pos];exact(key i hi).choose_spec.choose_spec.choose_spec.2.2.2.2
  simp only[hi,dif_neg,not_false_eq_true];decide
 intro b off e h0;injection e with e
 subst e;have hc:=(key 0 h0).choose_spec.choose_spec.choose_spec.1;exact World.block_lt_of_cell? W _ hc
theorem Oo{H:Type}{enc:TypeId×Value->H}{W:World}{d:DataW H}(h:DataW.Trod enc Tryz.prog W 0 (λ_=>true) true 25 (.slice a len cap) d p):
  ∃(xb xt xo:Nat->Int),cU W a 3 len (chF xb xt xo)/\(∀i,-9223372036854775808<=xb i/\xb i<=9223372036854775807)/\(∀i,-9223372036854775808<=xt i/\xt i<=9223372036854775807)/\(∀i,0<=xo i/\xo i<256)/\(len:Int)<=9223372036854775807/\(∀b off,a=some ⟨b,off,none⟩->0<len->b<W.heap.size):=by
 obtain⟨fuel,hf⟩:=h;rcases open_slice Tryz.underlying25 hf with⟨hcs,_⟩|⟨x,l,c,m,nn,DD,Pl,hcs,_,hl,hm,hmm,_,hall⟩
 ·simp[Value.cells] at hcs
  obtain⟨rfl,rfl,rfl⟩:=hcs;exact⟨λ_=>0,λ_=>0,λ_=>0,.inl rfl,λ_=>⟨(by decide:(-9223372036854775808:Int)<=0),(by decide:(0:Int)<=9223372036854775807)⟩,λ_=>⟨(by decide:(-9223372036854775808:Int)<=0),(by decide:(0:Int)<=9223372036854775807)⟩,λ_=>⟨Int.le_refl 0,(by decide:(0:Int)<256)⟩,by omega,λb off e=>by cases e⟩
 simp[Value.cells] at hcs;obtain⟨rfl,rfl,rfl⟩:=hcs;have hmax:maxLen=9223372036854775807:=rfl;have hlm:len<=m:=by rw[hmm];split<;>omega
 have hce:Tryz.prog.cellsOf 149=3:=by kernel_rfl
 rw[hce] at hall;have key:∀i,i<len->∃(b e g:Int),W.cell? (x.add (i*3))=some (.int .i64 b)/\W.cell? (x.add (i*3+1))=some (.int .i64 e)/\W.cell? (x.add (i*3+2))=some (.int .u8 g)/\(-9223372036854775808<=b/\b<=9223372036854775807)/\(-9223372036854775808<=e/\e<=9223372036854775807)/\0<=g/\g<256:=by
  intro i hi;obtain⟨cs',h1,h2⟩:=hall i (by omega);obtain⟨_,hlen,hcell⟩:=World.cells?_some h1;obtain⟨xs,k,_,_,_,hxl,hfl⟩:=DataW.trod_struct Tryz.underlying149 h2
  match xs,hxl,cs',hlen with
  |[y0,y1,y2],_,[v0,v1,v2],_=>
   have g0:=hfl 0 _ rfl;have g1:=hfl 1 _ rfl;have g2:=hfl 2 _ rfl;have wA:Tryz.prog.cellsOf 3=1:=by kernel_rfl
   have NT:Tryz.prog.cellsOf 5=1:=by kernel_rfl
   simp[wA,NT] at g0 g1 g2;obtain⟨b,e0,_,wb⟩:=DataW.trod_int Tryz.underlying3 g0;obtain⟨e,e1,_,we⟩:=DataW.trod_int Tryz.underlying3 g1;obtain⟨g,e2,_,wg⟩:=DataW.trod_int Tryz.underlying5 g2;simp at e0 e1 e2;have bb:=bounds_i64 wb;have be:=bounds_i64 we;have bg:=bounds_u8 wg;have c0:=hcell 0 (by omega);have c1:=hcell 1 (by omega);have c2:=hcell 2 (by omega);rw[add_add] at c0 c1 c2;exact⟨b,e,g,by simpa[e0] using c0,by simpa[e1] using c1,by simpa[e2] using c2,bb,be,by omega,by omega⟩
 refine⟨λi=>if hi:i<len then(key i hi).choose else 0,λi=>if hi:i<len then(key i hi).choose_spec.choose else 0,λi=>if hi:i<len then(key i hi).choose_spec.choose_spec.choose else 0,?_,?_,?_,?_,by omega,?_⟩
 ·by_cases h0:len=0
  ·exact .inl h0
  obtain⟨b,off,spot⟩:=x;have hc:=(key 0 (by omega)).choose_spec.choose_spec.choose_spec.1;have hspot:spot=none:=by simpa[Addr.add] using World.cell?_spot hc
  subst hspot;refine .inr ⟨b,off,rfl,λi hi j v hv=> ?_⟩;have hk:=(key i hi).choose_spec.choose_spec.choose_spec;have hj3:j<3:=(List.getElem?_eq_some_iff.1 hv).1;unfold chF at hv;simp only[hi,dif_pos] at hv;rw[Nat.add_assoc,<-bA];obtain rfl|rfl|rfl:j=0\/j=1\/j=2:=by omega
  ·rw[<-hv];exact hk.1
  ·rw[<-hv];exact hk.2.1
  rw[<-hv];exact hk.2.2.1
 ·intro i
  by_cases hi:i<len
  ·simp only[hi,dif_pos];exact(key i hi).choose_spec.choose_spec.choose_spec.2.2.2.1
  simp only[hi,dif_neg,not_false_eq_true];decide
 ·intro i
  by_cases hi:i<len
  ·simp only[hi,dif_pos];exact(key i hi).choose_spec.choose_spec.choose_spec.2.2.2.2.1
  simp only[hi,dif_neg,not_false_eq_true];decide
 ·intro i
  by_cases hi:i<len
  ·simp only[hi,dif_pos];exact(key i hi).choose_spec.choose_spec.choose_spec.2.2.2.2.2
  simp only[hi,dif_neg,not_false_eq_true];decide
 intro b off e h0;injection e with e
 subst e;have hc:=(key 0 h0).choose_spec.choose_spec.choose_spec.1;exact World.block_lt_of_cell? W _ hc
end
section
open Go.ChangeShapes Go.WideShapes Go.ChangeAt Go.Deep
theorem Jb{W:World}{n:Nat}(h:cU W a m n f)(hf:∀i,(f i)[0]?≠none):∀b off,a=some ⟨b,off,none⟩->0<n->b<W.heap.size:=by
 intro b off e hn;rcases h with h|⟨b',off',e',hs⟩
 ·omega
 rw[e] at e';injection e' with e';injection e' with e1 e2;subst e1 e2
 cases hv:(f 0)[0]? with
 |none=>exact absurd hv (hf 0)
 |some v=>exact World.block_lt_of_cell? W _ (hs 0 hn 0 v hv)
theorem oldR_of{W:World}{n:Nat}(h:cU W a m n f)(hf:∀i,(f i)[0]?≠none):fN W.heap.size W a m n f:=⟨h,Jb h hf⟩
theorem FT{H:Type}{enc:TypeId×Value->H}{W:World}{d:DataW H}(h:DataW.Trod enc Tryz.prog W 0 (λ_=>true) true 76 (.slice a len cap) d p):
  ∃(xb:Nat->Int) (xs:Nat->ByteArray),cU W a 2 len (λi=>[.int .i64 (xb i),.string (xs i)])/\(∀i,-9223372036854775808<=xb i/\xb i<=9223372036854775807)/\(∀i,(xs i).size<=9223372036854775807)/\(len:Int)<=9223372036854775807:=by
 obtain⟨fuel,hf⟩:=h;rcases open_slice Tryz.underlying76 hf with⟨hcs,_⟩|⟨x,l,c,m,nn,DD,Pl,hcs,_,hl,hm,hmm,_,hall⟩
 ·simp[Value.cells] at hcs
  obtain⟨rfl,rfl,rfl⟩:=hcs;exact⟨λ_=>0,λ_=>ByteArray.empty,.inl rfl,λ_=>⟨(by decide:(-9223372036854775808:Int)<=0),(by decide:(0:Int)<=9223372036854775807)⟩,λ_=>(by decide:ByteArray.empty.size<=9223372036854775807),by omega⟩
 simp[Value.cells] at hcs;obtain⟨rfl,rfl,rfl⟩:=hcs;have hmax:maxLen=9223372036854775807:=rfl;have hlm:len<=m:=by rw[hmm];split<;>omega
 have hce:Tryz.prog.cellsOf 80=2:=by kernel_rfl
 rw[hce] at hall;have key:∀i,i<len->∃(b:Int) (s:ByteArray),W.cell? (x.add (i*2))=some (.int .i64 b)/\W.cell? (x.add (i*2+1))=some (.string s)/\(-9223372036854775808<=b/\b<=9223372036854775807)/\s.size<=9223372036854775807:=by
  intro i hi;obtain⟨cs',h1,h2⟩:=hall i (by omega);obtain⟨_,hlen,hcell⟩:=World.cells?_some h1;obtain⟨xs,k,_,_,_,hxl,hfl⟩:=DataW.trod_struct Tryz.underlying80 h2
  match xs,hxl,cs',hlen with
  |[y0,y1],_,[v0,v1],_=>
   have g0:=hfl 0 _ rfl;have g1:=hfl 1 _ rfl;have wA:Tryz.prog.cellsOf 3=1:=by kernel_rfl
   have hcs:Tryz.prog.cellsOf 9=1:=by kernel_rfl
   simp[wA,hcs] at g0 g1;obtain⟨b,e0,_,wb⟩:=DataW.trod_int Tryz.underlying3 g0;obtain⟨s,e1,_,ws⟩:=DataW.trod_string Tryz.underlying9 g1;simp at e0 e1;have bb:=bounds_i64 wb;have c0:=hcell 0 (by omega);have c1:=hcell 1 (by omega);rw[add_add] at c0 c1;exact⟨b,s,by simpa[e0] using c0,by simpa[e1] using c1,bb,ws⟩
 refine⟨λi=>if hi:i<len then(key i hi).choose else 0,λi=>if hi:i<len then(key i hi).choose_spec.choose else ByteArray.empty,?_,?_,?_,by omega⟩
 ·by_cases h0:len=0
  ·exact .inl h0
  obtain⟨b,off,spot⟩:=x;have hc:=(key 0 (by omega)).choose_spec.choose_spec.1;have hspot:spot=none:=by simpa[Addr.add] using World.cell?_spot hc
  subst hspot;refine .inr ⟨b,off,rfl,λi hi j v hv=> ?_⟩;have hk:=(key i hi).choose_spec.choose_spec;have hj:j<2:=(List.getElem?_eq_some_iff.1 hv).1;simp only[hi,dif_pos] at hv;rw[Nat.add_assoc,<-bA];obtain rfl|rfl:j=0\/j=1:=by omega
  ·rw[<-hv];exact hk.1
  rw[<-hv];exact hk.2.1
 ·intro i
  by_cases hi:i<len
  ·simp only[hi,dif_pos];exact(key i hi).choose_spec.choose_spec.2.2.1
  simp only[hi,dif_neg,not_false_eq_true];decide
 intro i
 by_cases hi:i<len
 ·simp only[hi,dif_pos];exact(key i hi).choose_spec.choose_spec.2.2.2
 simp only[hi,dif_neg,not_false_eq_true];decide
structure FD where
 f:PF
 ba:Option Addr
 bc:Nat
 na:Option Addr
 nc:Nat
def FD.no:FD:=⟨⟨0,0,0,λ_=>0,0,λ_=>0,λ_=>ByteArray.empty,false,0⟩,none,0,none,0⟩
def FD.c(x:FD):List Value:=[.int .u8 x.f.kind,.int .i64 x.f.size,.slice x.ba x.f.nb x.bc,.slice x.na x.f.nn x.nc,.bool x.f.ay,.int .i64 x.f.aQ]
structure FD.In(x:FD)(W:World):Prop where
 b:fN W.heap.size W x.ba 1 x.f.nb (blR x.f)
 n:fN W.heap.size W x.na 2 x.f.nn (YM x.f)
 nb:(x.f.nb:Int)<=9223372036854775807
 nn:(x.f.nn:Int)<=9223372036854775807
 nm:∀k,((x.f.nm k).size:Int)<=9223372036854775807
 kind:0<=x.f.kind/\x.f.kind<256
 size:-9223372036854775808<=x.f.size/\x.f.size<=9223372036854775807
 aQ:-9223372036854775808<=x.f.aQ/\x.f.aQ<=9223372036854775807
 bl:∀k,-9223372036854775808<=x.f.bl k/\x.f.bl k<=9223372036854775807
 dir:∀k,-9223372036854775808<=x.f.dir k/\x.f.dir k<=9223372036854775807
theorem FD.Lu(W:World):FD.no.In W:=
 ⟨⟨.inl rfl,λ_ _ e=>by cases e⟩,⟨.inl rfl,λ_ _ e=>by cases e⟩,by decide,by decide,λ_=>(by decide:((ByteArray.empty.size:Nat):Int)<=9223372036854775807),by decide,by decide,by decide,λ_=>(by decide:(-9223372036854775808:Int)<=0/\(0:Int)<=9223372036854775807),λ_=>(by decide:(-9223372036854775808:Int)<=0/\(0:Int)<=9223372036854775807)⟩
theorem GM{H:Type}{enc:TypeId×Value->H}{W:World}{d:DataW H}(h:DataW.Trod enc Tryz.prog W 0 (λ_=>true) true 24 (.slice a len cap) d p):
  ∃D:Nat->FD,cU W a 6 len (λi=>(D i).c)/\(∀i,(D i).In W)/\(len:Int)<=9223372036854775807:=by
 obtain⟨fuel,hf⟩:=h;rcases open_slice Tryz.underlying24 hf with⟨hcs,_⟩|⟨x,l,c,m,nn,DD,Pl,hcs,_,hl,hm,hmm,_,hall⟩
 ·simp[Value.cells] at hcs
  obtain⟨rfl,rfl,rfl⟩:=hcs;exact⟨λ_=>FD.no,.inl rfl,λi=>FD.Lu W,by omega⟩
 simp[Value.cells] at hcs;obtain⟨rfl,rfl,rfl⟩:=hcs;have hmax:maxLen=9223372036854775807:=rfl;have hlm:len<=m:=by rw[hmm];split<;>omega
 have hce:Tryz.prog.cellsOf 78=6:=by kernel_rfl
 rw[hce] at hall;have key:∀i,i<len->∃d:FD,(∀j v,d.c[j]? =some v->W.cell? (x.add (i*6+j))=some v)/\d.In W:=by
  intro i hi;obtain⟨cs',h1,h2⟩:=hall i (by omega);obtain⟨_,hlen,hcell⟩:=World.cells?_some h1;obtain⟨xs,k,_,_,_,hxl,hfl⟩:=DataW.trod_struct Tryz.underlying78 h2
  match xs,hxl,cs',hlen with
  |[y0,y1,y2,y3,y4,y5],_,[v0,v1,v2,v3,v4,v5],_=>
   have g0:=hfl 0 _ rfl;have g1:=hfl 1 _ rfl;have g2:=hfl 2 _ rfl;have g3:=hfl 3 _ rfl;have g4:=hfl 4 _ rfl;have g5:=hfl 5 _ rfl;have NT:Tryz.prog.cellsOf 5=1:=by kernel_rfl
   have wA:Tryz.prog.cellsOf 3=1:=by kernel_rfl
   have hcv:Tryz.prog.cellsOf 37=1:=by kernel_rfl
   have hcn:Tryz.prog.cellsOf 76=1:=by kernel_rfl
   have hcb:Tryz.prog.cellsOf 4=1:=by kernel_rfl
   simp[NT,wA,hcv,hcn,hcb] at g0 g1 g2 g3 g4 g5;obtain⟨kd,e0,_,w0⟩:=DataW.trod_int Tryz.underlying5 g0;obtain⟨sz,e1,_,w1⟩:=DataW.trod_int Tryz.underlying3 g1;obtain⟨lk,e5,_,w5⟩:=DataW.trod_int Tryz.underlying3 g5;obtain⟨ob,e4,_⟩:=DataW.trod_bool Tryz.underlying4 g4;simp at e0 e1 e4 e5;obtain⟨ba,bn,bc,rfl⟩:∃ba bn bc,v2= .slice ba bn bc:=by
    rcases open_slice Tryz.underlying37 g2 with⟨e,_⟩|⟨x,l,c,m,nn,DD,Pl,e,_⟩
    ·simp at e;exact⟨_,_,_,e⟩
    simp at e;exact⟨_,_,_,e⟩
   obtain⟨na,YL,nc,rfl⟩:∃ba bn bc,v3= .slice ba bn bc:=by
    rcases open_slice Tryz.underlying76 g3 with⟨e,_⟩|⟨x,l,c,m,nn,DD,Pl,e,_⟩
    ·simp at e;exact⟨_,_,_,e⟩
    simp at e;exact⟨_,_,_,e⟩
   obtain⟨bl,hbl,hwb,hlb,_⟩:=ints_in (a:=ba) (len:=bn) (cap:=bc) ⟨k,g2⟩;obtain⟨dr,nm,xj,hwd,hws,JV⟩:=FT (a:=na) (len:=YL) (cap:=nc) ⟨k,g3⟩;have b0:=bounds_u8 w0;have b1:=bounds_i64 w1;have b5:=bounds_i64 w5;have c0:=hcell 0 (by omega);have c1:=hcell 1 (by omega);have c2:=hcell 2 (by omega);have c3:=hcell 3 (by omega);have c4:=hcell 4 (by omega);have c5:=hcell 5 (by omega);rw[add_add] at c0 c1 c2 c3 c4 c5;refine⟨⟨⟨kd,sz,bn,bl,YL,dr,nm,ob,lk⟩,ba,bc,na,nc⟩,λj v hv=> ?_,oldR_of hbl (λ_ e=>by cases e),oldR_of xj (λ_ e=>by cases e),hlb,JV,λq=>by have:=hws q;dsimp only;omega,⟨by dsimp only;omega,by dsimp only;omega⟩,b1,b5,hwb,hwd⟩;have hj:j<6:=(List.getElem?_eq_some_iff.1 hv).1;unfold FD.c at hv;obtain rfl|rfl|rfl|rfl|rfl|rfl:j=0\/j=1\/j=2\/j=3\/j=4\/j=5:=by omega
   ·rw[<-hv];simpa[e0] using c0
   ·rw[<-hv];simpa[e1] using c1
   ·rw[<-hv];simpa using c2
   ·rw[<-hv];simpa using c3
   ·rw[<-hv];simpa[e4] using c4
   rw[<-hv];simpa[e5] using c5
 refine⟨λi=>if hi:i<len then(key i hi).choose else FD.no,?_,λi=> ?_,by omega⟩
 ·by_cases h0:len=0
  ·exact .inl h0
  obtain⟨b,off,spot⟩:=x;have hc:=(key 0 (by omega)).choose_spec.1 0 _ rfl;have hspot:spot=none:=by simpa[Addr.add] using World.cell?_spot hc
  subst hspot;refine .inr ⟨b,off,rfl,λi hi j v hv=> ?_⟩;have hk:=(key i hi).choose_spec.1 j v;simp only[hi,dif_pos] at hv;rw[Nat.add_assoc,<-bA];exact hk hv
 by_cases hi:i<len
 ·simp only[hi,dif_pos];exact(key i hi).choose_spec.2
 simp only[hi,dif_neg,not_false_eq_true];exact FD.Lu W
theorem plan_in{H:Type}{enc:TypeId×Value->H}{W:World}{v:Value}{d:DataW H}(h:DataW.Trod enc Tryz.prog W 0 (λ_=>true) true 27 v d p):
  ∃(G S I J:Int) (e:dL) (P:PlanD),v=tZ G S I J e P/\P.Bd/\iX W.heap.size e P W/\(∀x∈[G,S,I,J],-9223372036854775808<=x/\x<=9223372036854775807):=by
 obtain⟨fuel,hf⟩:=h;obtain⟨xs,k,_,_,hlen,hxl,hfl⟩:=DataW.trod_struct Tryz.underlying27 hf;have hce:Tryz.prog.cellsOf 27=7:=by kernel_rfl
 rw[hce] at hlen;obtain⟨c,hc,hcs⟩:∃c:Array Value,v= .agg c/\c.size=7:=by
  cases v<;>first|exact⟨_,rfl,by simpa[Value.cells] using hlen⟩|(exfalso;simp[Value.cells] at hlen)
 subst hc;obtain⟨l⟩:=c
 match l,hcs with
 |[v0,v1,v2,v3,v4,v5,v6],_=>
  match xs,hxl with
  |[y0,y1,y2,y3],_=>
   have g0:=hfl 0 _ rfl;have g1:=hfl 1 _ rfl;have g2:=hfl 2 _ rfl;have g3:=hfl 3 _ rfl;have NV:Tryz.prog.cellsOf 23=4:=by kernel_rfl
   have hcf:Tryz.prog.cellsOf 24=1:=by kernel_rfl
   have hcc:Tryz.prog.cellsOf 25=1:=by kernel_rfl
   have hcb:Tryz.prog.cellsOf 4=1:=by kernel_rfl
   have wA:Tryz.prog.cellsOf 3=1:=by kernel_rfl
   simp[Value.cells,NV,hcf,hcc,hcb] at g0 g1 g2 g3;obtain⟨xs0,k0,_,_,_,Vj,J2⟩:=DataW.trod_struct Tryz.underlying23 g0
   match xs0,Vj with
   |[z0,z1,z2,z3],_=>
    have f0:=J2 0 _ rfl;have f1:=J2 1 _ rfl;have f2:=J2 2 _ rfl;have f3:=J2 3 _ rfl;simp[wA] at f0 f1 f2 f3;obtain⟨G,e0,_,b0⟩:=DataW.trod_int Tryz.underlying3 f0;obtain⟨S,e1,_,b1⟩:=DataW.trod_int Tryz.underlying3 f1;obtain⟨I,e2,_,b2⟩:=DataW.trod_int Tryz.underlying3 f2;obtain⟨J,e3,_,b3⟩:=DataW.trod_int Tryz.underlying3 f3;obtain⟨sm,e6,_⟩:=DataW.trod_bool Tryz.underlying4 g3;simp at e0 e1 e2 e3 e6;subst e0 e1 e2 e3 e6;have b0:=bounds_i64 b0;have b1:=bounds_i64 b1;have b2:=bounds_i64 b2;have b3:=bounds_i64 b3;obtain⟨fa,fn,fc,rfl⟩:∃ta tn tc,v4= .slice ta tn tc:=by
     rcases open_slice Tryz.underlying24 g1 with⟨e,_⟩|⟨x,l,c,m,nn,DD,Pl,e,_⟩<;>(simp at e;exact⟨_,_,_,e⟩)
    obtain⟨ca,cn,cc,rfl⟩:∃ta tn tc,v5= .slice ta tn tc:=by
     rcases open_slice Tryz.underlying25 g2 with⟨e,_⟩|⟨x,l,c,m,nn,DD,Pl,e,_⟩<;>(simp at e;exact⟨_,_,_,e⟩)
    obtain⟨D,hD,Ir,hDl⟩:=GM (a:=fa) (len:=fn) (cap:=fc) ⟨k,g1⟩;obtain⟨xb,xt,xo,hC,hb,ht,ho,hCl,_⟩:=Oo (a:=ca) (len:=cn) (cap:=cc) ⟨k,g2⟩;refine⟨G,S,I,J,⟨fa,fc,ca,cc,λi=>(D i).ba,λi=>(D i).bc,λi=>(D i).na,λi=>(D i).nc⟩,⟨fn,λi=>(D i).f,cn,xb,xt,xo,sm⟩,rfl,
     ⟨hDl,hCl,λi=>(Ir i).nb,λi=>(Ir i).nn,λi=>(Ir i).nm,λi=>(Ir i).kind,λi=>(Ir i).size,λi=>(Ir i).aQ,λi=>(Ir i).bl,λi=>(Ir i).dir,hb,ht,ho⟩,
     ⟨oldR_of hD (λ_ e=>by cases e),λi _=>(Ir i).b,λi _=>(Ir i).n,oldR_of hC (λ_ e=>by cases e)⟩,?_⟩
    intro x hx;simp only[List.mem_cons,List.not_mem_nil,or_false] at hx;rcases hx with rfl|rfl|rfl|rfl<;>assumption
end
section
open Go.ChangeShapes Go.WideShapes Go.ChangeAt Go.Deep
theorem copies_in{H:Type}{enc:TypeId×Value->H}{W:World}{d:DataW H}(h:DataW.Trod enc Tryz.prog W 0 (λ_=>true) true 35 (.slice a len cap) d p):
  ∃(cb:Nat->Int) (cd:Nat->Nat->Int),cU W a 257 len (L7 cb cd)/\(∀i,-9223372036854775808<=cb i/\cb i<=9223372036854775807)/\(∀i,bu (cd i))/\(len:Int)<=9223372036854775807/\(∀b off,a=some ⟨b,off,none⟩->0<len->b<W.heap.size):=by
 obtain⟨fuel,hf⟩:=h;rcases open_slice Tryz.underlying35 hf with⟨hcs,_⟩|⟨x,l,c,m,nn,DD,Pl,hcs,_,hl,hm,hmm,_,hall⟩
 ·simp[Value.cells] at hcs
  obtain⟨rfl,rfl,rfl⟩:=hcs;exact⟨λ_=>0,λ_ _=>0,.inl rfl,λ_=>⟨(by decide:(-9223372036854775808:Int)<=0),(by decide:(0:Int)<=9223372036854775807)⟩,λ_ _=>⟨Int.le_refl 0,(by decide:(0:Int)<256)⟩,by omega,λb off e=>by cases e⟩
 simp[Value.cells] at hcs;obtain⟨rfl,rfl,rfl⟩:=hcs;have hmax:maxLen=9223372036854775807:=rfl;have hlm:len<=m:=by rw[hmm];split<;>omega
 have hce:Tryz.prog.cellsOf 97=257:=by kernel_rfl
 rw[hce] at hall;have wA:Tryz.prog.cellsOf 3=1:=by kernel_rfl
 have NT:Tryz.prog.cellsOf 5=1:=by kernel_rfl
 have hcb:Tryz.prog.cellsOf 32=256:=by kernel_rfl
 have key:∀i,i<len->∃(b:Int) (z:Nat->Int),(∀j v,(Xv b z)[j]? =some v->W.cell? (x.add (i*257+j))=some v)/\(-9223372036854775808<=b/\b<=9223372036854775807)/\bu z:=by
  intro i hi;obtain⟨cs',h1,h2⟩:=hall i (by omega);obtain⟨_,hlen,hcell⟩:=World.cells?_some h1;obtain⟨xs,k,_,_,_,hxl,hfl⟩:=DataW.trod_struct Tryz.underlying97 h2
  match xs,hxl,cs',hlen with
  |[y0,y1],_,v0::rest,hlen=>
   have hrl:rest.length=256:=by simpa using hlen
   have g0:=hfl 0 _ rfl;have g1:=hfl 1 _ rfl;simp[wA,hcb] at g0 g1;rw[List.take_of_length_le (by omega)] at g1;obtain⟨b,e0,_,wb⟩:=DataW.trod_int Tryz.underlying3 g0;simp at e0;obtain⟨ys,k2,_,_,_,LI,hel⟩:=DataW.trod_array Tryz.underlying32 g1;have each:∀j,j<256->∃z:Int,rest[j]? =some (.int .u8 z)/\0<=z/\z<256:=by
    intro j hj;have g:=hel j hj;rw[NT,Nat.mul_one,List.getElem?_eq_getElem (by omega)] at g;obtain⟨z,ez,_,wz⟩:=DataW.trod_int Tryz.underlying5 g;have:=bounds_u8 wz;refine⟨z,?_,by omega,by omega⟩;have h0:((rest.drop j).take 1)[0]? =some (.int .u8 z):=by rw[ez];rfl
    rw[List.getElem?_take_of_lt (by omega),List.getElem?_drop,Nat.add_zero] at h0;exact h0
   refine⟨b,λj=>if hj:j<256 then(each j hj).choose else 0,λj v hv=> ?_,bounds_i64 wb,λj=> ?_⟩
   ·have hj:j<257:=by
     have:=(List.getElem?_eq_some_iff.1 hv).1;rwa[Kt] at this
    have c:=hcell j (by omega);rw[add_add] at c;rw[c];cases j with
    |zero=>rw[<-hv];simp[e0]
    |succ j=>
     have hj':j<256:=by omega
     rw[List.getElem?_cons_succ] at hv ⊢;rw[(each j hj').choose_spec.1,<-hv,gX .u8 256 _ _ hj',dif_pos hj']
   by_cases hj:j<256
   ·simp only[hj,dif_pos];exact(each j hj).choose_spec.2
   simp only[hj,dif_neg,not_false_eq_true];decide
 refine⟨λi=>if hi:i<len then(key i hi).choose else 0,λi=>if hi:i<len then(key i hi).choose_spec.choose elseλ_=>0,?_,?_,?_,by omega,?_⟩
 ·by_cases h0:len=0
  ·exact .inl h0
  obtain⟨b,off,spot⟩:=x;have hc:=(key 0 (by omega)).choose_spec.choose_spec.1 0 _ rfl;have hspot:spot=none:=by simpa[Addr.add] using World.cell?_spot hc
  subst hspot;refine .inr ⟨b,off,rfl,λi hi j v hv=> ?_⟩;have hk:=(key i hi).choose_spec.choose_spec.1 j v;unfold L7 at hv;simp only[hi,dif_pos] at hv;rw[Nat.add_assoc,<-bA];exact hk hv
 ·intro i
  by_cases hi:i<len
  ·simp only[hi,dif_pos];exact(key i hi).choose_spec.choose_spec.2.1
  simp only[hi,dif_neg,not_false_eq_true];decide
 ·intro i
  by_cases hi:i<len
  ·simp only[hi,dif_pos];exact(key i hi).choose_spec.choose_spec.2.2
  simp only[hi,dif_neg,not_false_eq_true];exactλ_=>⟨Int.le_refl 0,(by decide:(0:Int)<256)⟩
 intro b off e h0;injection e with e
 subst e;have hc:=(key 0 h0).choose_spec.choose_spec.1 0 _ rfl;exact World.block_lt_of_cell? W _ hc
end
end Go.Proofs.YtphamecphmbipaaGreatDoor
