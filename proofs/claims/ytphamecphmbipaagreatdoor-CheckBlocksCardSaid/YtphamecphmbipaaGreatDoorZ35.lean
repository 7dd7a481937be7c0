/- Texts of this claim, merged. -/
import Derived.Test.YtphamecphmbipaaGreatDoorZ34
set_option linter.unusedVariables false
set_option maxRecDepth 100000
set_option maxHeartbeats 16000000

namespace Go.Proofs.YtphamecphmbipaaGreatDoor
open Go.RowKit
variable {w W':World} {p off cap r ci B g v:Nat} {x:Im} {ds ay pt:Value} {l:List (Nat×ByteArray)}
structure pI(w:World)(p b off cap:Nat)(x:Im)(ds:Value)(r ci:Nat)(ay pt:Value)(Q:List Im.Pt)(B:Nat)(a:Option Addr)(c:Nat)(l:List (Nat×ByteArray))(W:World):Prop where
 k:oq w p b off cap x ds r ci ay pt Q W
 o:W.ownsRow B 90 2 (.slice a l.length c) l.length (lY l)
theorem pI.below{b:Nat}{Q:List Im.Pt}{a:Option Addr}{c:Nat}{W:World}(h:pI w p b off cap x ds r ci ay pt Q B a c l W)(hb:Below W.heap.size W W'):pI w p b off cap x ds r ci ay pt Q B a c l W':=⟨h.k.below hb,nP h.o hb⟩
theorem qe:∀{l:List (Nat×ByteArray)} {j:Nat} {e:Nat×ByteArray},l[j]? =some e->(lY l)[j*2]? =some (.int .u32 (e.1:Int))/\(lY l)[j*2+1]? =some (.string e.2)
 |[],j,e,h=>by cases h
 |z::l,0,e,h=>by injection h with h;subst h;exact⟨rfl,rfl⟩
 |z::l,j+1,e,h=>by
  have:=qe (l:=l) (j:=j) h;show([Value.int .u32 (z.1:Int),.string z.2]++lY l)[(j+1)*2]? =_/\([Value.int .u32 (z.1:Int),.string z.2]++lY l)[(j+1)*2+1]? =_;rw[List.getElem?_append_right (by show 2<=_;omega),List.getElem?_append_right (by show 2<=_;omega)];show(lY l)[(j+1)*2-2]? =_/\(lY l)[(j+1)*2+1-2]? =_;rw[show(j+1)*2-2=j*2 by omega,show(j+1)*2+1-2=j*2+1 by omega];exact this
theorem pI.at{b:Nat}{Q:List Im.Pt}{g c:Nat}{W:World}(h:pI w p b off cap x ds r ci ay pt Q B (some ⟨g,0,none⟩) c l W){j:Nat}{e:Nat×ByteArray}(he:l[j]? =some e):W.cell? ⟨g,j*2,none⟩=some (.int .u32 (e.1:Int))/\W.cell? ⟨g,j*2+1,none⟩=some (.string e.2):=by
 obtain⟨h1,h2⟩:=qe he;have k1:=h.o.cells (g:=g) rfl _ _ h1;have k2:=h.o.cells (g:=g) rfl _ _ h2;rw[bA,Nat.zero_add] at k1 k2;exact⟨k1,k2⟩
def Im.dF(x:Im)(t:Nat)(u:Nat->List Nat):Option (Nat->List Nat):=if(x.ino (t+1)).kind=2 then(x.iu (t+1)).map (λr=>ak u (t+1) r.2) else some u
theorem Im.B3(x:Im):x.mR=a8 x.dF x.ni (λ_=>[]):=rfl
theorem z8{z:Nat->Int}(hz:bu z):∀k,∀e∈Im.sP z k,e.1<4294967296
 |0,e,h=>by cases h
 |k+1,e,h=>by
  rw[Im.sP] at h;split at h
  ·exact z8 hz k e h
  rcases List.mem_append.1 h with h|h
  ·exact z8 hz k e h
  rw[List.mem_singleton] at h;have:=GX hz k;rw[h];show(dI z k).toNat<_;omega
theorem MI(hx:x.Ok){t:Nat}(h:x.Eo t=some l):∀e∈l,e.1<4294967296:=by
 refine iC (P:=λ_ (l:List (Nat×ByteArray))=>∀e∈l,e.1<4294967296) h (λe h=>by cases h) λk a c _ ha hc=> ?_
 split at hc
 ·injection hc with hc
  intro e he;rw[<-hc] at he;rcases List.mem_append.1 he with he|he
  ·exact ha e he
  exact z8 (hx.jx _) 8 e he
 cases hc
def XI(w:World)(x:Im)(e:Ending)(w':World):Prop:=e= .returned (.bool x.mR.isSome)/\Below w.heap.size w w'
structure Sp(x:Im)(Q:List Im.Pt):Prop where
 len:Q.length<=2048
 blk:∀t,1<=t->t<=x.ni->(x.ino t).kind=2->∀i,i<65536->Im.kI Q t i=x.blk t i
 lt:∀t,1<=t->t<=x.ni->(x.ino t).kind=2->∀i,i<65536->x.blk t i≠0->x.blk t i<x.n
theorem xX(hx:x.Ok)(kE:∀t,1<=t->t<=x.ni->(x.ino t).kz)(p b off cap:Nat)(ds:Value)(r ci:Nat)(ay pt:Value)(Q:List Im.Pt)(hQ:Sp x Q)(w:World)(h:xp p b off cap x ds r ci ay pt Q w):
  Calls Tryz.prog 120 #[.pointer (some ⟨p,0,none⟩)] w λe w'=>XI w x e w':=by
 have hni:x.ni<=256:=eX hx.may;have zM:Hd (∀t,1<=t->t<=x.ni->(x.ino t).kind=2->∀W,xp p b off cap x ds r ci ay pt Q W->Calls Tryz.prog 154 #[.pointer (some ⟨p,0,none⟩),.int .i64 (t:Int)] W λe w'=>T1 W x t e w'):=λt h1 h2 hk W hW=>kR hx kE p b off cap ds r ci ay pt Q hQ.len t h1 h2 (hQ.blk t h1 h2 hk) (hQ.lt t h1 h2 hk) W hW
 have O0:Hd (∀t n (l:List (Nat×ByteArray)),x.I4 t n=some l->l.length<=8*n):=λt n l h=>Bw h
 have X7:Hd (∀t,1<=t->t<=x.ni->(x.ino t).size.toNat/256<=65536):=λt h1 h2=>by
  have:=(aS.mK (kE t h1 h2)).1;omega
 have HTB:Hd (∀t l,x.Eo t=some l->∀e∈l,e.1<4294967296):=λt l h=>MI hx h
 have dt:Hd (oq w p b off cap x ds r ci ay pt Q w):=⟨h,Below.refl _ _⟩;clear h hx kE hQ;go_enter Tryz.func120,Tryz.ntmps120;go_wp2_with fail;go_loopw [3,4,5,6,7] (λv _ _ _ _ wr=>∃(k:Nat) (u:Nat->List Nat),k<=x.ni/\v= .int .i64 ((k:Int)+1)/\a8 x.dF k (λ_=>[])=some u/\oq w p b off cap x ds r ci ay pt Q wr) (λv _ _ _ _ _=>x.ni+1-(intOf v).toNat)
 case atStart=>exact⟨0,_,Nat.zero_le _,rfl,rfl,dt.Z⟩
 clear dt;obtain⟨k,u,hk,rfl,hu,st⟩:=hrel;have HU:=ah hu;have ST:=ah st;have c11:wr.cell? ⟨p,11,none⟩=some (.slice (some ⟨r,0,none⟩) (x.ni+1) ci):=st.k.i.k.a.cell (i:=11) rfl;clear hu st
 by_cases hlt:k<x.ni
 ·have hlt':(k:Int)+1<(x.ni:Int)+1:=by omega
  have k0:(0:Int)<=(k:Int)+1:=by omega
  have cK:wr.cell? ⟨r,(k+1)*16,none⟩=some (.int .u8 (x.ino (k+1)).kind):=ST.Z.k.i.ino (t:=k+1) (by omega) 0 rfl
  by_cases hk2:(x.ino (k+1)).kind=2
  ·have q0:((x.ino (k+1)).kind !=2)=false:=by simp[hk2]
   have IC:=ah (zM.Z (k+1) (by omega) (by omega) hk2);have cY:Hd (x.iu (k+1)=none->∀W',Below w.heap.size w W'->XI w x (.returned (.bool false)) W'):=λh W' hb=>⟨by rw[Im.B3,dp HU.Z (by unfold Im.dF;rw[if_pos hk2,h];rfl) hlt];rfl,hb⟩
   have gz:Hd (∀rr,x.iu (k+1)=some rr->a8 x.dF (k+1) (λ_=>[])=some (ak u (k+1) rr.2)):=λrr h=>bK HU.Z (by unfold Im.dF;rw[if_pos hk2,h];rfl)
   have Tg:=ah (Im.B5 (x:=x) (k+1));have LL:=X7.Z (k+1) (by omega) (by omega);have HS8:Hd (∀l,x.Eo (k+1)=some l->l.length<=600000):=λl hl=>by
    have:=O0.Z (k+1) _ l hl;omega
   clear hk2 LL;generalize (x.ino (k+1)).kind=kd at*;go_wp2_with fail;refine(IC.Z wr ST.Z.k).mono ?_;rintro e w1 ⟨hb1,hC⟩;have bh:=ah (ST.Z.below hb1);clear ST c11 cK hb1;rcases hC with⟨hs,rfl⟩|⟨l,a,c,hs,rfl,ho⟩
   ·have HF:=ah (cY.Z (by rw[Tg.Z,hs];rfl))
    clear hs;go_wp2_with fail;go_ret;exact HF.Z _ bh.Z.bel
   have HLS:=ah hs;have Ii:=HS8.Z l hs;have bW:Hd (pI w p b off cap x ds r ci ay pt Q wr.heap.size a c l w1):=⟨bh.Z,ho⟩;have Ti:Hd (x.iu (k+1)=x.gw l ([],[])):=by show _=_;rw[Tg.Z,hs];rfl
   obtain⟨base,hbase⟩:=aa wr.heap.size;rw[<-hbase] at bW;obtain⟨n,hn⟩:=aa l.length;have HN:=ah hn;rw[<-hn] at Ii ⊢;clear hs bh ho hbase hn;go_wp2_with fail;go_loopw [6,7] (λv _ wr=>∃j:Nat,j<=n/\v= .int .i64 (j:Int)/\x.gw (l.take j) ([],[])=some ((l.take j).map (λe=>e.2.data.toList),(l.take j).map (λe=>e.1))/\pI w p b off cap x ds r ci ay pt Q base a c l wr) (λv _ _=>n-(intOf v).toNat)
   case atStart=>exact⟨0,Nat.zero_le _,rfl,rfl,bW.Z⟩
   clear bW;obtain⟨j,hj,rfl,hc,st⟩:=hrel;have HC:=ah hc;have ST:=ah st;clear hc st
   by_cases hjn:j<n
   ·have Rh:(j:Int)<(n:Int):=by omega
    have j0:(0:Int)<=(j:Int):=by omega
    obtain⟨e,he⟩:∃e,l[j]? =some e:=⟨_,List.getElem?_eq_getElem (by rw[<-HN.Z];exact hjn)⟩;obtain⟨g,Ws⟩:∃g,a=some ⟨g,0,none⟩:=by
     obtain⟨g,cg,hg⟩:=jG ST.Z.o (by rw[<-HN.Z];omega);injection hg with hg1
     exact⟨g,hg1⟩
    subst Ws;have HE:=ah he;have HST:=ah (Im.D3 (x:=x) he HC.Z);have zv:Hd (x.gw (l.take (j+1)) ([],[])=none->∀W',Below w.heap.size w W'->XI w x (.returned (.bool false)) W'):=λh W' hb=>cY.Z (by rw[Ti.Z];exact Im.Kw h) W' hb
    clear he;go_wp2_with fail;have Zx:∀W,pI w p b off cap x ds r ci ay pt Q base (some ⟨g,0,none⟩) c l W->W.cell? ⟨g,j*2,none⟩=some (.int .u32 (e.1:Int)):=λW h=>(h.at HE.Z).1
    have Us:=ah Zx;clear Zx;obtain⟨d,hd⟩:=aa e.1;rw[<-hd] at Us;have HD:=ah hd;clear hd
    by_cases mo:d<=x.ni
    ·have d1:decide ((x.ni:Int)+1<=(d:Int))=false:=decide_eq_false (by omega)
     have Gv:(d:Int)<(x.ni:Int)+1:=by omega
     have d0:(0:Int)<=(d:Int):=by omega
     have Il:(d:Int)<4294967296:=by omega
     have Cr:Hd (∀W,pI w p b off cap x ds r ci ay pt Q base (some ⟨g,0,none⟩) c l W->W.cell? ⟨r,d*16,none⟩=some (.int .u8 (x.ino d).kind)):=λW h=>h.k.k.i.ino (t:=d) (by omega) 0 rfl
     obtain⟨kd,fV⟩:=aa ((x.ino d).kind);rw[<-fV] at Cr;have HKE:=ah fV;clear fV
     by_cases DN:kd=0
     ·have q1:(kd==0)=true:=by simp[DN]
      have HF:=ah (zv.Z (by rw[HST.Z];unfold Im.pR;rw[if_neg];intro h;rw[<-HD.Z,<-HKE.Z] at h;exact h.2.2 DN));clear DN;refine ar (pI w p b off cap x ds r ci ay pt Q base (some ⟨g,0,none⟩) c l) (ST.Z.below ⟨rfl,rfl,rfl,Nat.le_refl _,λ_ _=>rfl⟩) ?_;clear ST;intro hne;have cA:∀y:a9 (pI w p b off cap x ds r ci ay pt Q base (some ⟨g,0,none⟩) c l),y.W.cell? ⟨g,j*2,none⟩=some (.int .u32 (d:Int)):=λy=>Us.Z _ y.h
      have c11:∀y:a9 (pI w p b off cap x ds r ci ay pt Q base (some ⟨g,0,none⟩) c l),y.W.cell? ⟨p,11,none⟩=some (.slice (some ⟨r,0,none⟩) (x.ni+1) ci):=λy=>y.h.k.k.i.k.a.cell (i:=11) rfl
      have cK:∀y:a9 (pI w p b off cap x ds r ci ay pt Q base (some ⟨g,0,none⟩) c l),y.W.cell? ⟨r,d*16,none⟩=some (.int .u8 kd):=λy=>Cr.Z _ y.h
      repeat go_big_quiet_step (fail)
      refine wpQuiet_nil ?_;intro w3 h3;have fh:=ah h3.Z;clear h3 hne cA c11 cK;go_wp2_with fail;go_ret;exact HF.Z _ fh.Z.k.bel
     have q1:(kd==0)=false:=by simp[DN]
     have HKN:=ah DN;clear DN;refine ar (pI w p b off cap x ds r ci ay pt Q base (some ⟨g,0,none⟩) c l) (ST.Z.below ⟨rfl,rfl,rfl,Nat.le_refl _,λ_ _=>rfl⟩) ?_;clear ST;intro hne;have cA:∀y:a9 (pI w p b off cap x ds r ci ay pt Q base (some ⟨g,0,none⟩) c l),y.W.cell? ⟨g,j*2,none⟩=some (.int .u32 (d:Int)):=λy=>Us.Z _ y.h
     have c11:∀y:a9 (pI w p b off cap x ds r ci ay pt Q base (some ⟨g,0,none⟩) c l),y.W.cell? ⟨p,11,none⟩=some (.slice (some ⟨r,0,none⟩) (x.ni+1) ci):=λy=>y.h.k.k.i.k.a.cell (i:=11) rfl
     have cK:∀y:a9 (pI w p b off cap x ds r ci ay pt Q base (some ⟨g,0,none⟩) c l),y.W.cell? ⟨r,d*16,none⟩=some (.int .u8 kd):=λy=>Cr.Z _ y.h
     repeat go_big_quiet_step (fail)
     refine wpQuiet_nil ?_;intro w3 h3;have fh:=ah h3.Z;clear h3 hne cA c11 cK;go_wp2_with fail;go_loopw [7] (λv wr=>∃q:Nat,q<=j/\v= .int .i64 (q:Int)/\(∀(i:Nat) (f:Nat×ByteArray),i<q->l[i]? =some f->f.2≠e.2)/\pI w p b off cap x ds r ci ay pt Q base (some ⟨g,0,none⟩) c l wr) (λv _=>j-(intOf v).toNat)
     case atStart=>exact⟨0,Nat.zero_le _,rfl,λi f h=>by omega,fh.Z⟩
     clear fh;obtain⟨q,hq,rfl,hne,st⟩:=hrel;have zN:=ah hne;have ST:=ah st;clear hne st
     by_cases hqj:q<j
     ·have ac5:(q:Int)<(j:Int):=by omega
      have YG:(0:Int)<=(q:Int):=by omega
      have ac4:(q:Int)<(n:Int):=by omega
      obtain⟨f,hf⟩:∃f,l[q]? =some f:=⟨_,List.getElem?_eq_getElem (by rw[<-HN.Z];omega)⟩;have OY:=ah hf;have xc:Hd (∀W,pI w p b off cap x ds r ci ay pt Q base (some ⟨g,0,none⟩) c l W->W.cell? ⟨g,j*2+1,none⟩=some (.string e.2)):=λW h=>(h.at HE.Z).2
      have ko:Hd (∀W,pI w p b off cap x ds r ci ay pt Q base (some ⟨g,0,none⟩) c l W->W.cell? ⟨g,q*2+1,none⟩=some (.string f.2)):=λW h=>(h.at OY.Z).2
      obtain⟨Z,hZ⟩:=aa ((e.2.toList==f.2.toList));have ZA:=hZ.symm;have HZ:Hd (Z=true↔f.2=e.2):=by
       show _↔_;rw[hZ,beq_iff_eq,ByteArray.toList_eq,ByteArray.toList_eq];exact⟨λh=>(wV h).symm,λh=>by rw[h]⟩
      clear hf hZ;obtain⟨s1,hs1⟩:=aa e.2;obtain⟨s2,hs2⟩:=aa f.2;rw[<-hs1] at xc ZA HZ;rw[<-hs2] at ko ZA HZ;have PT:Hd (s1=e.2/\s2=f.2):=⟨hs1,hs2⟩;clear hs1 hs2;go_wp2_with fail;refine ar (pI w p b off cap x ds r ci ay pt Q base (some ⟨g,0,none⟩) c l) (ST.Z.below ⟨rfl,rfl,rfl,Nat.le_refl _,λ_ _=>rfl⟩) ?_;clear ST;intro hne;have cA:∀y:a9 (pI w p b off cap x ds r ci ay pt Q base (some ⟨g,0,none⟩) c l),y.W.cell? ⟨g,j*2+1,none⟩=some (.string s1):=λy=>xc.Z _ y.h
      have cB:∀y:a9 (pI w p b off cap x ds r ci ay pt Q base (some ⟨g,0,none⟩) c l),y.W.cell? ⟨g,q*2+1,none⟩=some (.string s2):=λy=>ko.Z _ y.h
      repeat go_big_quiet_step (fail)
      refine wpQuiet_nil ?_;intro w4 h4;have ey:=ah h4.Z;clear h4 hne cA cB;cases Z with
      |true=>
       have hsame:=HZ.Z.1 rfl;have HF:=ah (zv.Z (by
        rw[HST.Z];unfold Im.pR;rw[if_neg];intro h;refine h.1 ?_;rw[<-PT.Z.1,<-hsame,PT.Z.2];exact List.mem_map.2 ⟨f,List.mem_of_getElem? (i:=q) (by rw[List.getElem?_take,if_pos hqj];exact OY.Z),rfl⟩))
       clear hsame;go_wp2_with fail;go_ret;exact HF.Z _ ey.Z.k.bel
      |false=>
       have SU:Hd (∀(i:Nat) (f:Nat×ByteArray),i<q+1->l[i]? =some f->f.2≠e.2):=λi f' hi hf'=>by
        rcases Nat.lt_succ_iff_lt_or_eq.1 hi with h|h
        ·exact zN.Z i f' h hf'
        subst h;have:=OY.Z;rw[hf'] at this;injection this with this
        rw[this];intro h2;rw[<-PT.Z.1,<-PT.Z.2] at h2;have:=HZ.Z.2 h2;cases this
       go_wp2_with fail;go_roundw
       case rel=>(try((repeat apply Exists.intro);refine⟨?_,rfl⟩));exact⟨q+1,by omega,by go_num,SU.Z,ey.Z⟩
       simp[intOf];omega
     obtain rfl:q=j:=by omega
     have zP:Hd (x.gw (l.take (q+1)) ([],[])=some ((l.take (q+1)).map (λe=>e.2.data.toList),(l.take (q+1)).map (λe=>e.1))):=by
      show _=_;rw[HST.Z];unfold Im.pR;rw[if_pos,List.take_add_one,HE.Z,List.map_append,List.map_append]
      ·rfl
      refine⟨λhm=> ?_,by rw[<-HD.Z];exact mo,by rw[<-HD.Z,<-HKE.Z];exact HKN.Z⟩;obtain⟨f,hfm,hfe⟩:=List.mem_map.1 hm;obtain⟨i,hi⟩:=List.getElem?_of_mem hfm;rw[List.getElem?_take] at hi;split at hi
      ·rename_i kf
       exact zN.Z i f kf hi (wV hfe)
      cases hi
     go_wp2_with fail;go_roundw
     case rel=>(try((repeat apply Exists.intro);refine⟨?_,rfl⟩));exact⟨q+1,by omega,by go_num,zP.Z,ST.Z⟩
     simp[intOf];omega
    have d1:decide ((x.ni:Int)+1<=(d:Int))=true:=decide_eq_true (by omega);have HF:=ah (zv.Z (by rw[HST.Z];unfold Im.pR;rw[if_neg];intro h;rw[<-HD.Z] at h;exact mo h.2.1));have Il:(d:Int)<4294967296:=by have:=HTB.Z _ l HLS.Z e (List.mem_of_getElem? HE.Z);rw[<-HD.Z] at this;omega
    have d0:(0:Int)<=(d:Int):=by omega
    clear mo;refine ar (pI w p b off cap x ds r ci ay pt Q base (some ⟨g,0,none⟩) c l) (ST.Z.below ⟨rfl,rfl,rfl,Nat.le_refl _,λ_ _=>rfl⟩) ?_;clear ST;intro hne;have cA:∀y:a9 (pI w p b off cap x ds r ci ay pt Q base (some ⟨g,0,none⟩) c l),y.W.cell? ⟨g,j*2,none⟩=some (.int .u32 (d:Int)):=λy=>Us.Z _ y.h
    have c11:∀y:a9 (pI w p b off cap x ds r ci ay pt Q base (some ⟨g,0,none⟩) c l),y.W.cell? ⟨p,11,none⟩=some (.slice (some ⟨r,0,none⟩) (x.ni+1) ci):=λy=>y.h.k.k.i.k.a.cell (i:=11) rfl
    repeat go_big_quiet_step (fail)
    refine wpQuiet_nil ?_;intro w3 h3;have fh:=ah h3.Z;clear h3 hne cA c11;go_wp2_with fail;go_ret;exact HF.Z _ fh.Z.k.bel
   obtain rfl:j=n:=by omega
   have HF:=ah (gz.Z _ (by rw[Ti.Z];have:=HC.Z;rwa[HN.Z,List.take_length] at this));go_wp2_with fail;go_roundw
   case rel=>(try((repeat apply Exists.intro);refine⟨?_,rfl⟩));exact⟨k+1,_,by omega,by first|rfl|go_num,HF.Z,ST.Z.k⟩
   simp[intOf];omega
  have q0:((x.ino (k+1)).kind !=2)=true:=by simp[hk2]
  have HF:Hd (a8 x.dF (k+1) (λ_=>[])=some u):=bK HU.Z (by unfold Im.dF;rw[if_neg hk2]);clear hk2;generalize (x.ino (k+1)).kind=kd at*;go_wp2_with fail;go_roundw
  case rel=>(try((repeat apply Exists.intro);refine⟨?_,rfl⟩));exact⟨k+1,u,by omega,by first|rfl|go_num,HF.Z,ST.Z⟩
  simp[intOf];omega
 obtain rfl:k=x.ni:=by omega
 go_wp2_with fail;go_ret;exact⟨by rw[Im.B3,HU.Z];rfl,ST.Z.bel⟩
structure T0(x:Im)(u:Nat->List Nat):Prop where
 z:u 0=[]
 no:∀t,1<=t->t<=x.ni->(x.ino t).kind≠2->u t=[]
 sl:∀t,1<=t->t<=x.ni->(x.ino t).kind=2->∃l,x.Eo t=some l/\u t=l.map (λe=>e.1)
 bd:∀t,(∀d∈u t,d<=x.ni)/\(u t).length<=600000
 kd:∀t,u t≠[]->(x.ino t).kind=2
theorem Im.uok{u:Nat->List Nat}(hM:∀t,1<=t->t<=x.ni->(x.ino t).kz)(h:x.mR=some u):T0 x u:=by
 refine⟨?_,?_,?_,λt=>Im.B4 hM h t,λt hne=> ?_⟩
 ·rcases Im.qx h 0 with h|⟨h1,_⟩
  ·exact h.1
  omega
 ·intro t _ _ hk
  rcases Im.qx h t with h|⟨_,_,h2,_⟩
  ·exact h.1
  exact absurd h2 hk
 ·intro t h1 h2 hk
  rcases Im.qx h t with h|⟨_,_,_,r,hr,hu⟩
  ·exact absurd hk h.2
  rw[Im.B5] at hr;cases hs:x.Eo t with
  |none=>rw[hs] at hr;cases hr
  |some l=>
   rw[hs] at hr;have:=Im.uM (show x.gw l ([],[])=some r from hr);exact⟨l,rfl,by rw[hu,this];rfl⟩
 rcases Im.qx h t with h|⟨_,_,h2,_⟩
 ·exact absurd h.1 hne
 exact h2
structure Low(w:World)(p b r:Nat)(Q:List Im.Pt)(pt:Value):Prop where
 p:p<w.heap.size
 b:b<w.heap.size
 r:r<w.heap.size
 q:T4 w Q pt
theorem xp.low{b:Nat}{Q:List Im.Pt}(h:xp p b off cap x ds r ci ay pt Q w):Low w p b r Q pt:=⟨h.i.k.a.lt,h.i.k.bl,h.i.rl,h.q.bd⟩
theorem oq.only{b:Nat}{Q:List Im.Pt}{W:World}(h:oq w p b off cap x ds r ci ay pt Q W)(ho:az g W W')(hg:w.heap.size<=g)(hl:Low w p b r Q pt):oq w p b off cap x ds r ci ay pt Q W':=
 h.grown ho.grown (λq e=>by injection e with e;omega) hl.p hl.b hl.r hl.q
structure uR(w:World)(p b off cap:Nat)(x:Im)(ds:Value)(r ci:Nat)(ay pt:Value)(Q:List Im.Pt)(g:Nat)(c:Nat->Nat)(W:World):Prop where
 k:oq w p b off cap x ds r ci ay pt Q W
 o:aE W g 3 1 (x.ni+1) (mG c)
structure Sk(w:World)(p b off cap:Nat)(x:Im)(ds:Value)(r ci:Nat)(ay pt:Value)(Q:List Im.Pt)(g:Nat)(a:Option Addr)(l:List (Nat×ByteArray))(c:Nat->Nat)(W:World):Prop where
 s:uR w p b off cap x ds r ci ay pt Q g c W
 d:l.length=0\/∃q,a=some ⟨q,0,none⟩/\q≠g/\q<W.heap.size/\∀(j:Nat) (e:Nat×ByteArray),l[j]? =some e->W.cell? ⟨q,j*2,none⟩=some (.int .u32 (e.1:Int))
section
variable {w:World} {p b off cap:Nat} {x:Im} {ds:Value} {r ci:Nat} {ay pt:Value} {Q:List Im.Pt} {g:Nat} {a:Option Addr} {l:List (Nat×ByteArray)} {c:Nat->Nat} {W W':World}
theorem uR.below(h:uR w p b off cap x ds r ci ay pt Q g c W)(hb:Below W.heap.size W W'):uR w p b off cap x ds r ci ay pt Q g c W':=⟨h.k.below hb,h.o.below hb⟩
theorem uR.set(h:uR w p b off cap x ds r ci ay pt Q g c W)(hv:v<x.ni+1)(t:Nat)(hg:w.heap.size<=g)(hl:Low w p b r Q pt):uR w p b off cap x ds r ci ay pt Q g (ak c v t) (W.setCell ⟨g,v,none⟩ (.int .i64 (t:Int))):=by
 have ho:az g W (W.setCell ⟨g,v,none⟩ (.int .i64 (t:Int))):=az.setCell W ⟨g,v,none⟩ _;refine⟨h.k.only ho hg hl,?_⟩;have:=h.o.dO (k:=v) (j:=0) hv (by decide) (λi=>rE c i) (.int .i64 (t:Int));rw[Nat.mul_one,Nat.add_zero] at this;refine this.congr λi hi=> ?_
 unfold mG ak
 by_cases e:i=v
 ·rw[if_pos e,if_pos e];rfl
 rw[if_neg e,if_neg e]
theorem Sk.set(h:Sk w p b off cap x ds r ci ay pt Q g a l c W)(hv:v<x.ni+1)(t:Nat)(hg:w.heap.size<=g)(hl:Low w p b r Q pt):Sk w p b off cap x ds r ci ay pt Q g a l (ak c v t) (W.setCell ⟨g,v,none⟩ (.int .i64 (t:Int))):=by
 have ho:az g W (W.setCell ⟨g,v,none⟩ (.int .i64 (t:Int))):=az.setCell W ⟨g,v,none⟩ _;refine⟨h.s.set hv t hg hl,?_⟩;rcases h.d with h0|⟨q,e,hq,hs,hd⟩
 ·exact .inl h0
 exact .inr ⟨q,e,hq,by rw[ho.size];exact hs,λj e' he=>(ho.cell (p:=⟨q,j*2,none⟩) hq).trans (hd j e' he)⟩
end
theorem uk:(Tryz.prog.info? 3).map (λi=>(i.zero,i.size,i.bytes))=some (some (.int .i64 0),1,8):=by kernel_rfl
theorem Ad(n:Nat)(hn:n<=2048)(W:World):(Instr.makeSlice 37 (.int .i64 (n:Int)) (.int .i64 (n:Int))).run Tryz.prog W= .ok (.slice (some ⟨W.heap.size,0,none⟩) n n) (W.alloc (.cells (madeCells #[.int .i64 0] n) 3)):=by
 have h:=dx (P:=Tryz.prog) 37 3 (.int .i64 0) 1 8 Tryz.underlying37 uk .i64 .i64 n (by omega) (by omega) W;rw[Nat.mul_one] at h;exact h
theorem vy(hx:x.Ok)(kE:∀t,1<=t->t<=x.ni->(x.ino t).kz)(p b off cap:Nat)(ds:Value)(r ci:Nat)(ay pt:Value)(Q:List Im.Pt)(hQ:Sp x Q)(u:Nat->List Nat)(hU:T0 x u)(w:World)(h:xp p b off cap x ds r ci ay pt Q w):
  Calls Tryz.prog 155 #[.pointer (some ⟨p,0,none⟩)] w λe w'=>∃g,e= .returned (.slice (some ⟨g,0,none⟩) (x.ni+1) (x.ni+1))/\w.heap.size<=g/\aE w' g 3 1 (x.ni+1) (mG λt=>Im.cnt u t (x.ni+1))/\Below w.heap.size w w':=by
 have hni:x.ni<=256:=eX hx.may;have zM:Hd (∀t,1<=t->t<=x.ni->(x.ino t).kind=2->∀W,xp p b off cap x ds r ci ay pt Q W->Calls Tryz.prog 154 #[.pointer (some ⟨p,0,none⟩),.int .i64 (t:Int)] W λe w'=>T1 W x t e w'):=λt h1 h2 hk W hW=>kR hx kE p b off cap ds r ci ay pt Q hQ.len t h1 h2 (hQ.blk t h1 h2 hk) (hQ.lt t h1 h2 hk) W hW
 have HU:=ah hU;have pX:=ah h.low;have c11:w.cell? ⟨p,11,none⟩=some (.slice (some ⟨r,0,none⟩) (x.ni+1) ci):=h.i.k.a.cell (i:=11) rfl;obtain⟨g,hg⟩:=aa w.heap.size;have hmk:(Instr.makeSlice 37 (.int .i64 ((x.ni:Int)+1)) (.int .i64 ((x.ni:Int)+1))).run Tryz.prog w= .ok (.slice (some ⟨g,0,none⟩) (x.ni+1) (x.ni+1)) (w.alloc (.cells (madeCells #[.int .i64 0] (x.ni+1)) 3)):=by
  rw[hg];exact Ad (x.ni+1) (by omega) w
 obtain⟨W1,hW1⟩:=aa (w.alloc (.cells (madeCells #[.int .i64 0] (x.ni+1)) 3));have hb1:Below w.heap.size w W1:=by rw[hW1];exact ag.alloc af _
 have hr1:aE W1 g 3 1 (x.ni+1) (mG λt=>Im.cnt u t 1):=by
  have e:(λt=>Im.cnt u t 1)=λ_=>0:=by
   funext t
   show 0+(u 0).count t=0;rw[hU.z];rfl
  rw[hW1,hg,e];have:=(aE.made (m:=1) w #[.int .i64 0] rfl (by omega) (x.ni+1) 3);rw[Nat.mul_one] at this;exact this
 have lh:uR w p b off cap x ds r ci ay pt Q g (λt=>Im.cnt u t 1) W1:=⟨⟨h.below hb1,hb1⟩,hr1⟩;have bh:=ah lh;have sV:Hd (w.heap.size<=g):=by show _<=_;omega
 have UZ:(0:Int)<=(x.ni:Int)+1:=by omega
 rw[<-hW1] at hmk;clear h hb1 hr1 hW1 hx hg kE hQ hU lh;go_enter Tryz.func155,Tryz.ntmps155;go_wp2_with fail;clear c11 hmk;go_loopw [4,5,6,7] (λv _ _ _ wr=>∃k:Nat,k<=x.ni/\v= .int .i64 ((k:Int)+1)/\uR w p b off cap x ds r ci ay pt Q g (λt=>Im.cnt u t (k+1)) wr) (λv _ _ _ _=>x.ni+1-(intOf v).toNat)
 case atStart=>exact⟨0,Nat.zero_le _,rfl,bh.Z⟩
 clear bh;obtain⟨k,hk,rfl,st⟩:=hrel;have ST:=ah st;have c11:wr.cell? ⟨p,11,none⟩=some (.slice (some ⟨r,0,none⟩) (x.ni+1) ci):=st.k.k.i.k.a.cell (i:=11) rfl;clear st
 by_cases hlt:k<x.ni
 ·have hlt':(k:Int)+1<(x.ni:Int)+1:=by omega
  have k0:(0:Int)<=(k:Int)+1:=by omega
  have cK:wr.cell? ⟨r,(k+1)*16,none⟩=some (.int .u8 (x.ino (k+1)).kind):=ST.Z.k.k.i.ino (t:=k+1) (by omega) 0 rfl
  by_cases hk2:(x.ino (k+1)).kind=2
  ·have q0:((x.ino (k+1)).kind==2)=true:=by simp[hk2]
   have IC:=ah (zM.Z (k+1) (by omega) (by omega) hk2);have X4:=ah (HU.Z.sl (k+1) (by omega) (by omega) hk2);clear hk2;generalize (x.ino (k+1)).kind=kd at*;go_wp2_with fail;refine(IC.Z wr ST.Z.k.k).mono ?_;rintro e w1 ⟨hb1,hC⟩;have bh:=ah (ST.Z.below hb1);have Ml:Hd (g<wr.heap.size/\wr.heap.size<=w1.heap.size):=⟨ST.Z.o.lt,hb1.size⟩;obtain⟨l,a,c,rfl,JN,ho⟩:∃l a c,e= .returned (.tuple #[.slice a l.length c,.bool true])/\u (k+1)=l.map (λe=>e.1)/\w1.ownsRow wr.heap.size 90 2 (.slice a l.length c) l.length (lY l):=by
    obtain⟨l',hl1,hl2⟩:=X4.Z;rcases hC with⟨hs,_⟩|⟨l,a,c,hs,he,ho⟩
    ·rw[hl1] at hs;cases hs
    rw[hl1] at hs;injection hs with hs;subst hs;exact⟨l',a,c,he,hl2,ho⟩
   have bW:Hd (Sk w p b off cap x ds r ci ay pt Q g a l (λt=>Im.cnt u t (k+1)) w1):=⟨bh.Z,by
    by_cases h0:l.length=0
    ·exact .inl h0
    obtain⟨q,cg,hq⟩:=jG ho (by omega);injection hq with hq1 _ _
    subst hq1;have tl:=World.ownsRow.lt ho q rfl;refine .inr ⟨q,rfl,by have:=Ml.Z.1;omega,tl.2,λj e he=> ?_⟩;have k1:=ho.cells (g:=q) rfl _ _ (qe he).1;rw[bA,Nat.zero_add] at k1;exact k1⟩
   have OJ:=ah JN;have Ii:l.length<=600000:=by have:=(HU.Z.bd (k+1)).2;rw[JN,List.length_map] at this;exact this
   have Mr:Hd (∀(j:Nat) (e:Nat×ByteArray),l[j]? =some e->e.1<=x.ni):=λj e he=>(HU.Z.bd (k+1)).1 e.1 (by rw[OJ.Z];exact List.mem_map.2 ⟨e,List.mem_of_getElem? he,rfl⟩)
   obtain⟨n,hn⟩:=aa l.length;have HN:=ah hn;rw[<-hn] at Ii ⊢;clear bh ho JN hC hb1 ST c11 cK hn;go_wp2_with fail;go_loopw [7] (λv wr=>∃j:Nat,j<=n/\v= .int .i64 (j:Int)/\Sk w p b off cap x ds r ci ay pt Q g a l (λt=>Im.cnt u t (k+1)+((u (k+1)).take j).count t) wr) (λv _=>n-(intOf v).toNat)
   case atStart=>exact⟨0,Nat.zero_le _,rfl,by simpa using bW.Z⟩
   clear bW;obtain⟨j,hj,rfl,st⟩:=hrel;have ST:=ah st;clear st
   by_cases hjn:j<n
   ·have Rh:(j:Int)<(n:Int):=by omega
    have j0:(0:Int)<=(j:Int):=by omega
    obtain⟨q,GB,QZ⟩:∃q,a=some ⟨q,0,none⟩/\∀(j:Nat) (e:Nat×ByteArray),l[j]? =some e->wr.cell? ⟨q,j*2,none⟩=some (.int .u32 (e.1:Int)):=by
     rcases ST.Z.d with h|⟨q,e,_,_,hd⟩
     ·have:=HN.Z;omega
     exact⟨q,e,hd⟩
    subst GB;obtain⟨e,he⟩:∃e,l[j]? =some e:=⟨_,List.getElem?_eq_getElem (by rw[<-HN.Z];exact hjn)⟩;have cD:=QZ j e he;have Rq:=Mr.Z j e he;have ur:(u (k+1))[j]? =some e.1:=by rw[OJ.Z,List.getElem?_map,he];rfl
    obtain⟨d,hd⟩:=aa e.1;rw[<-hd] at cD Rq ur;have Gv:(d:Int)<(x.ni:Int)+1:=by omega
    have d0:(0:Int)<=(d:Int):=by omega
    obtain⟨cv,hcv⟩:=aa (Im.cnt u d (k+1)+((u (k+1)).take j).count d);have cC:=ST.Z.s.o.j8 (show d<x.ni+1 by omega) (v:=.int .i64 (cv:Int)) (by rw[hcv];rfl);have Wx:(cv:Int)<=1000000000:=by
     have h1:=Im.wK (λt=>(HU.Z.bd t).2) d (k+1);have h2:((u (k+1)).take j).count d<=((u (k+1)).take j).length:=List.count_le_length;have h3:((u (k+1)).take j).length<=(u (k+1)).length:=by rw[List.length_take];omega
     have h4:=(HU.Z.bd (k+1)).2;omega
    have cv0:(0:Int)<=(cv:Int):=by omega
    have fC:=ST.Z.s.o.soft d;have fK:=ST.Z.set (v:=d) (by omega) (cv+1) sV.Z pX.Z;rw[show((cv+1:Nat):Int)=(cv:Int)+1 by omega] at fK;have hfun:ak (λt=>Im.cnt u t (k+1)+((u (k+1)).take j).count t) d (cv+1)=λt=>Im.cnt u t (k+1)+((u (k+1)).take (j+1)).count t:=by
     funext t
     rw[List.take_add_one,ur,List.count_append];unfold ak
     by_cases e:t=d
     ·subst e;rw[if_pos rfl,hcv];simp;omega
     rw[if_neg e];have:(Option.some d).toList.count t=0:=by simp[List.count_cons];omega
     rw[this];rfl
    rw[hfun] at fK;have fK:=ah fK;clear hd ur hcv hfun he QZ Rq;go_wp2_with fail;go_roundw
    case rel=>(try((repeat apply Exists.intro);refine⟨?_,rfl⟩));exact⟨j+1,by omega,by first|rfl|go_num,fK.Z⟩
    simp[intOf]<;>omega
   obtain rfl:j=n:=by omega
   have fK:Hd (uR w p b off cap x ds r ci ay pt Q g (λt=>Im.cnt u t (k+1+1)) wr):=by
    have h0:=ST.Z.s;have e:(u (k+1)).take j=u (k+1):=by rw[OJ.Z,HN.Z];exact List.take_of_length_le (by rw[List.length_map];exact Nat.le_refl _)
    rw[e] at h0;exact h0
   go_wp2_with fail;go_roundw
   case rel=>(try((repeat apply Exists.intro);refine⟨?_,rfl⟩));exact⟨k+1,by omega,by first|rfl|go_num,fK.Z⟩
   simp[intOf]<;>omega
  have q0:((x.ino (k+1)).kind==2)=false:=by simp[hk2]
  have fK:Hd (uR w p b off cap x ds r ci ay pt Q g (λt=>Im.cnt u t (k+1+1)) wr):=by
   have e:(λt=>Im.cnt u t (k+1+1))=λt=>Im.cnt u t (k+1):=by
    funext t
    show Im.cnt u t (k+1)+(u (k+1)).count t=_;rw[HU.Z.no (k+1) (by omega) (by omega) hk2];rfl
   show uR _ _ _ _ _ _ _ _ _ _ _ _ _ _ _;rw[e];exact ST.Z
  clear hk2;generalize (x.ino (k+1)).kind=kd at*;go_wp2_with fail;go_roundw
  case rel=>(try((repeat apply Exists.intro);refine⟨?_,rfl⟩));exact⟨k+1,by omega,by first|rfl|go_num,fK.Z⟩
  simp[intOf]<;>omega
 obtain rfl:k=x.ni:=by omega
 go_wp2_with fail;go_ret;exact⟨g,rfl,sV.Z,ST.Z.o,ST.Z.k.bel⟩
theorem vB(hx:x.Ok)(kE:∀t,1<=t->t<=x.ni->(x.ino t).kz)(p b off cap:Nat)(ds:Value)(r ci:Nat)(ay pt:Value)(Q:List Im.Pt)(hQ:Sp x Q)(u:Nat->List Nat)(hU:T0 x u)(uq:1<=x.ni)(w:World)(h:xp p b off cap x ds r ci ay pt Q w):
  Calls Tryz.prog 121 #[.pointer (some ⟨p,0,none⟩)] w λe w'=>e= .returned (.bool (aK (λt=>x.gW u (t+1)) x.ni))/\Below w.heap.size w w':=by
 have hni:x.ni<=256:=eX hx.may;have HST:=ah (vy hx kE p b off cap ds r ci ay pt Q hQ u hU w h);have HK:=ah h;have HU:=ah hU;rw[Im.Fp uq];obtain⟨N,hN⟩:∃N,x.ni=N+1:=⟨x.ni-1,by omega⟩;rw[show x.ni-1=N by omega];have HN:=ah hN;clear h hx kE hQ hU hN;go_enter Tryz.func121,Tryz.ntmps121;go_wp2_with fail;refine HST.Z.mono ?_;rintro e w1 ⟨g,rfl,hg,hr,hb⟩;have dt:Hd (uR w p b off cap x ds r ci ay pt Q g (λt=>Im.cnt u t (x.ni+1)) w1):=⟨⟨HK.Z.below hb,hb⟩,hr⟩;clear HST HK hg hr hb;go_wp2_with fail;go_loopw [4] (λv wr=>∃k:Nat,k<=N/\v= .int .i64 ((k:Int)+2)/\(∀j,j<k->x.oF u (j+2)=true)/\uR w p b off cap x ds r ci ay pt Q g (λt=>Im.cnt u t (x.ni+1)) wr) (λv _=>x.ni+1-(intOf v).toNat)
 case atStart=>exact⟨0,Nat.zero_le _,rfl,λj h=>by omega,dt.Z⟩
 clear dt;obtain⟨k,hk,rfl,hP,st⟩:=hrel;have HP:=ah hP;have ST:=ah st;have c11:wr.cell? ⟨p,11,none⟩=some (.slice (some ⟨r,0,none⟩) (x.ni+1) ci):=st.k.k.i.k.a.cell (i:=11) rfl;clear hP st
 by_cases hlt:k<N
 ·have hlt':(k:Int)+2<(x.ni:Int)+1:=by have:=HN.Z;omega
  have k0:(0:Int)<=(k:Int)+2:=by omega
  have hk2:k+2<x.ni+1:=by have:=HN.Z;omega
  have Yh:=ah hk2;have iT:Hd (x.oF u (k+2)= !(((x.ino (k+2)).kind==1&&(((Im.cnt u (k+2) (x.ni+1):Nat):Int) !=(x.ino (k+2)).aQ))||((x.ino (k+2)).kind==2&&(((Im.cnt u (k+2) (x.ni+1):Nat):Int) !=1)))):=rfl;have HA:Hd (∀W,uR w p b off cap x ds r ci ay pt Q g (λt=>Im.cnt u t (x.ni+1)) W->W.cell? ⟨r,(k+2)*16,none⟩=some (.int .u8 (x.ino (k+2)).kind)/\W.cell? ⟨r,(k+2)*16+1,none⟩=some (.int .i64 (x.ino (k+2)).aQ)/\W.cell? ⟨g,k+2,none⟩=some (.int .i64 ((Im.cnt u (k+2) (x.ni+1):Nat):Int))):=λW h=>⟨h.k.k.i.ino hk2 0 rfl,h.k.k.i.ino hk2 1 rfl,h.o.j8 hk2 rfl⟩
  have cY:Hd (x.oF u (k+2)=false->aK (λt=>x.oF u (t+2)) N=false):=λh=>bR (p:=λt=>x.oF u (t+2)) hlt h
  have gz:Hd (x.oF u (k+2)=true->∀j,j<k+1->x.oF u (j+2)=true):=λh j hj=>by
   rcases Nat.lt_succ_iff_lt_or_eq.1 hj with h1|h1
   ·exact HP.Z j h1
   rw[h1];exact h
  generalize x.oF u (k+2)=ck at*;generalize (x.ino (k+2)).kind=kd at*;generalize (x.ino (k+2)).aQ=lk at*;obtain⟨cv,hcv⟩:=aa (Im.cnt u (k+2) (x.ni+1));rw[<-hcv] at iT HA;clear hcv hk2;obtain⟨C1,GD⟩:=aa ((kd==1));obtain⟨C2,Ex⟩:=aa (((cv:Int) !=lk));obtain⟨C3,Ew⟩:=aa ((kd==2));obtain⟨C4,Xl⟩:=aa (((cv:Int) !=1));have g1:=GD.symm;have g2:=Ex.symm;have g3:=Ew.symm;have g4:=Xl.symm;have HC:Hd (ck= !((C1&&C2)||(C3&&C4))):=by show _=_;rw[iT.Z,GD,Ex,Ew,Xl]
  clear GD Ex Ew Xl iT;go_wp2_with fail;clear c11;refine ar (uR w p b off cap x ds r ci ay pt Q g (λt=>Im.cnt u t (x.ni+1))) (ST.Z.below ⟨rfl,rfl,rfl,Nat.le_refl _,λ_ _=>rfl⟩) ?_;clear ST;intro hne;have c11:∀y:a9 (uR w p b off cap x ds r ci ay pt Q g (λt=>Im.cnt u t (x.ni+1))),y.W.cell? ⟨p,11,none⟩=some (.slice (some ⟨r,0,none⟩) (x.ni+1) ci):=λy=>y.h.k.k.i.k.a.cell (i:=11) rfl
  have cK:∀y:a9 (uR w p b off cap x ds r ci ay pt Q g (λt=>Im.cnt u t (x.ni+1))),y.W.cell? ⟨r,(k+2)*16,none⟩=some (.int .u8 kd):=λy=>(HA.Z _ y.h).1
  have cL:∀y:a9 (uR w p b off cap x ds r ci ay pt Q g (λt=>Im.cnt u t (x.ni+1))),y.W.cell? ⟨r,(k+2)*16+1,none⟩=some (.int .i64 lk):=λy=>(HA.Z _ y.h).2.1
  have cC:∀y:a9 (uR w p b off cap x ds r ci ay pt Q g (λt=>Im.cnt u t (x.ni+1))),y.W.cell? ⟨g,k+2,none⟩=some (.int .i64 (cv:Int)):=λy=>(HA.Z _ y.h).2.2
  cases C1<;>cases C2<;>cases C3<;>cases C4
  all_goals
   repeat go_big_quiet_step (fail)
   refine wpQuiet_nil ?_;intro w3 h3;have fh:=ah h3.Z;clear h3 hne c11 cK cL cC;go_wp2_with fail
   first
   |(go_roundw
     case rel=>(try((repeat apply Exists.intro);refine⟨?_,rfl⟩));exact⟨k+1,by omega,by go_num,gz.Z HC.Z,fh.Z⟩
     simp[intOf];omega)
   |(go_ret
     exact⟨by rw[cY.Z HC.Z];rfl,fh.Z.k.bel⟩)
 obtain rfl:k=N:=by omega
 have hlt':¬(k:Int)+2<(x.ni:Int)+1:=by have:=HN.Z;omega
 have n1:(1:Int)<(x.ni:Int)+1:=by omega
 have eW:Hd (aK (λt=>x.oF u (t+2)) k=true):=(aY (λt=>x.oF u (t+2)) _).2 HP.Z;have cC:wr.cell? ⟨g,1,none⟩=some (.int .i64 ((Im.cnt u 1 (x.ni+1):Nat):Int)):=ST.Z.o.j8 (by omega) rfl;obtain⟨cv,hcv⟩:=aa (Im.cnt u 1 (x.ni+1));rw[<-hcv] at cC;have HCV:=ah hcv;clear hcv;go_wp2_with fail;go_ret;exact⟨by rw[eW.Z,Im.vR,<-HCV.Z];rfl,ST.Z.k.bel⟩
end Go.Proofs.YtphamecphmbipaaGreatDoor
