/- Texts of this claim, merged. -/
import Derived.Test.YtphamecphmbipaaGreatDoorK36
set_option linter.unusedVariables false
set_option maxRecDepth 100000
set_option maxHeartbeats 16000000

namespace Go.Proofs.YtphamecphmbipaaGreatDoor
open Go.RowKit
open Lib (hid)
variable {w W':World} {p b off cap r ci B g v:Nat} {x:Im} {ds ak pt:Value} {l:List (Nat×ByteArray)}
structure pj(w:World)(p b off cap:Nat)(x:Im)(ds:Value)(r ci:Nat)(ak pt:Value)(Q:List Im.Pt)(B:Nat)(a:Option Addr)(c:Nat)(l:List (Nat×ByteArray))(W:World):Prop where
 k:nX w p b off cap x ds r ci ak pt Q W
 o:W.ownsRow B 90 2 (.slice a l.length c) l.length (lP l)
theorem pj.below{Q:List Im.Pt}{a:Option Addr}{c:Nat}{W:World}(h:pj w p b off cap x ds r ci ak pt Q B a c l W)(hb:Below W.heap.size W W'):pj w p b off cap x ds r ci ak pt Q B a c l W':=⟨h.k.below hb,nC h.o hb⟩
theorem pM:∀{l:List (Nat×ByteArray)} {j:Nat} {e:Nat×ByteArray},l[j]? =some e->(lP l)[j*2]? =some (.int .u32 (e.1:Int))/\(lP l)[j*2+1]? =some (.string e.2)
 |[],j,e,h=>by cases h
 |z::l,0,e,h=>by injection h with h;subst h;exact⟨rfl,rfl⟩
 |z::l,j+1,e,h=>by
  have:=pM (l:=l) (j:=j) h;show([Value.int .u32 (z.1:Int),.string z.2]++lP l)[(j+1)*2]? =_/\([Value.int .u32 (z.1:Int),.string z.2]++lP l)[(j+1)*2+1]? =_;rw[List.getElem?_append_right (by show 2<=_;omega),List.getElem?_append_right (by show 2<=_;omega)];show(lP l)[(j+1)*2-2]? =_/\(lP l)[(j+1)*2+1-2]? =_;rw[show(j+1)*2-2=j*2 by omega,show(j+1)*2+1-2=j*2+1 by omega];exact this
theorem pj.at{Q:List Im.Pt}{g c:Nat}{W:World}(h:pj w p b off cap x ds r ci ak pt Q B (some ⟨g,0,none⟩) c l W){j:Nat}{e:Nat×ByteArray}(he:l[j]? =some e):W.cell? ⟨g,j*2,none⟩=some (.int .u32 (e.1:Int))/\W.cell? ⟨g,j*2+1,none⟩=some (.string e.2):=by
 obtain⟨h1,h2⟩:=pM he;have k1:=h.o.cells (g:=g) rfl _ _ h1;have k2:=h.o.cells (g:=g) rfl _ _ h2;rw[bh,Nat.zero_add] at k1 k2;exact⟨k1,k2⟩
def Im.dF(x:Im)(t:Nat)(u:Nat->List Nat):Option (Nat->List Nat):=if(x.ino (t+1)).kind=2 then(x.gV (t+1)).map (λr=>af u (t+1) r.2) else some u
theorem Im.BN(x:Im):x.mI=aS x.dF x.ni (λ_=>[]):=rfl
theorem zL{z:Nat->Int}(hz:bm z):∀k,∀e∈Im.sy z k,e.1<4294967296
 |0,e,h=>by cases h
 |k+1,e,h=>by
  rw[Im.sy] at h;split at h
  ·exact zL hz k e h
  rcases List.mem_append.1 h with h|h
  ·exact zL hz k e h
  rw[List.mem_singleton] at h;have:=Gy hz k;rw[h];show(dI z k).toNat<_;omega
theorem Mh(hx:x.Ok){t:Nat}(h:x.D7 t=some l):∀e∈l,e.1<4294967296:=by
 refine g9 (P:=λ_ (l:List (Nat×ByteArray))=>∀e∈l,e.1<4294967296) h (λe h=>by cases h) λk a c _ ha hc=> ?_
 split at hc
 ·injection hc with hc
  intro e he;rw[<-hc] at he;rcases List.mem_append.1 he with he|he
  ·exact ha e he
  exact zL (hx.jg _) 8 e he
 cases hc
def Xa(w:World)(x:Im)(e:Ending)(w':World):Prop:=e= .returned (.bool x.mI.isSome)/\Below w.heap.size w w'
structure RR(x:Im)(Q:List Im.Pt):Prop where
 len:Q.length<=2048
 blk:∀t,1<=t->t<=x.ni->(x.ino t).kind=2->∀i,i<65536->Im.kt Q t i=x.blk t i
 lt:∀t,1<=t->t<=x.ni->(x.ino t).kind=2->∀i,i<65536->x.blk t i≠0->x.blk t i<x.n
theorem xD(hx:x.Ok)(ko:∀t,1<=t->t<=x.ni->(x.ino t).ki)(p b off cap:Nat)(ds:Value)(r ci:Nat)(ak pt:Value)(Q:List Im.Pt)(hQ:RR x Q)(w:World)(h:wT p b off cap x ds r ci ak pt Q w):
  Calls Tryz.prog 120 #[.pointer (some ⟨p,0,none⟩)] w λe w'=>Xa w x e w':=by
 have hni:x.ni<=256:=eK hx.may;have zt:Hid (∀t,1<=t->t<=x.ni->(x.ino t).kind=2->∀W,wT p b off cap x ds r ci ak pt Q W->Calls Tryz.prog 154 #[.pointer (some ⟨p,0,none⟩),.int .i64 (t:Int)] W λe w'=>TA W x t e w'):=λt h1 h2 hk W hW=>kI hx ko p b off cap ds r ci ak pt Q hQ.len t h1 h2 (hQ.blk t h1 h2 hk) (hQ.lt t h1 h2 hk) W hW
 have Ov:Hid (∀t n (l:List (Nat×ByteArray)),x.Iy t n=some l->l.length<=8*n):=λt n l h=>Bi h
 have Xz:Hid (∀t,1<=t->t<=x.ni->(x.ino t).size.toNat/256<=65536):=λt h1 h2=>by
  have:=(aK.mA (ko t h1 h2)).1;omega
 have HTB:Hid (∀t l,x.D7 t=some l->∀e∈l,e.1<4294967296):=λt l h=>Mh hx h
 have cX:Hid (nX w p b off cap x ds r ci ak pt Q w):=⟨h,Below.refl _ _⟩;clear h hx ko hQ;go_enter Tryz.func120,Tryz.ntmps120;go_wp2_with fail;go_loopw [3,4,5,6,7] (λv _ _ _ _ wr=>∃(k:Nat) (u:Nat->List Nat),k<=x.ni/\v= .int .i64 ((k:Int)+1)/\aS x.dF k (λ_=>[])=some u/\nX w p b off cap x ds r ci ak pt Q wr) (λv _ _ _ _ _=>x.ni+1-(intOf v).toNat)
 case atStart=>exact⟨0,_,Nat.zero_le _,rfl,rfl,cX.out⟩
 clear cX;obtain⟨k,u,hk,rfl,hu,st⟩:=hrel;have HU:=hid hu;have ST:=hid st;have c11:wr.cell? ⟨p,11,none⟩=some (.slice (some ⟨r,0,none⟩) (x.ni+1) ci):=st.k.i.k.a.cell (i:=11) rfl;clear hu st
 by_cases hlt:k<x.ni
 ·have hlt':(k:Int)+1<(x.ni:Int)+1:=by omega
  have k0:(0:Int)<=(k:Int)+1:=by omega
  have cK:wr.cell? ⟨r,(k+1)*16,none⟩=some (.int .u8 (x.ino (k+1)).kind):=ST.out.k.i.ino (t:=k+1) (by omega) 0 rfl
  by_cases hk2:(x.ino (k+1)).kind=2
  ·have q0:((x.ino (k+1)).kind !=2)=false:=by simp[hk2]
   have H7:=hid (zt.out (k+1) (by omega) (by omega) hk2);have ct:Hid (x.gV (k+1)=none->∀W',Below w.heap.size w W'->Xa w x (.returned (.bool false)) W'):=λh W' hb=>⟨by rw[Im.BN,cV HU.out (by unfold Im.dF;rw[if_pos hk2,h];rfl) hlt];rfl,hb⟩
   have gi:Hid (∀rr,x.gV (k+1)=some rr->aS x.dF (k+1) (λ_=>[])=some (af u (k+1) rr.2)):=λrr h=>bA HU.out (by unfold Im.dF;rw[if_pos hk2,h];rfl)
   have SD:=hid (Im.BP (x:=x) (k+1));have Li:=Xz.out (k+1) (by omega) (by omega);have HS8:Hid (∀l,x.D7 (k+1)=some l->l.length<=600000):=λl hl=>by
    have:=Ov.out (k+1) _ l hl;omega
   clear hk2 Li;generalize (x.ino (k+1)).kind=kd at*;go_wp2_with fail;refine(H7.out wr ST.out.k).mono ?_;rintro e w1 ⟨hb1,hC⟩;have aV:=hid (ST.out.below hb1);clear ST c11 cK hb1;rcases hC with⟨hs,rfl⟩|⟨l,a,c,hs,rfl,ho⟩
   ·have HF:=hid (ct.out (by rw[SD.out,hs];rfl))
    clear hs;go_wp2_with fail;go_ret;exact HF.out _ aV.out.bel
   have HLS:=hid hs;have Hi:=HS8.out l hs;have cf:Hid (pj w p b off cap x ds r ci ak pt Q wr.heap.size a c l w1):=⟨aV.out,ho⟩;have SF:Hid (x.gV (k+1)=x.gb l ([],[])):=by show _=_;rw[SD.out,hs];rfl
   obtain⟨base,hbase⟩:∃base,base=wr.heap.size:=⟨_,rfl⟩;rw[<-hbase] at cf;obtain⟨n,hn⟩:∃n,n=l.length:=⟨_,rfl⟩;have HN:=hid hn;rw[<-hn] at Hi ⊢;clear hs aV ho hbase hn;go_wp2_with fail;go_loopw [6,7] (λv _ wr=>∃j:Nat,j<=n/\v= .int .i64 (j:Int)/\x.gb (l.take j) ([],[])=some ((l.take j).map (λe=>e.2.data.toList),(l.take j).map (λe=>e.1))/\pj w p b off cap x ds r ci ak pt Q base a c l wr) (λv _ _=>n-(intOf v).toNat)
   case atStart=>exact⟨0,Nat.zero_le _,rfl,rfl,cf.out⟩
   clear cf;obtain⟨j,hj,rfl,hc,st⟩:=hrel;have HC:=hid hc;have ST:=hid st;clear hc st
   by_cases hjn:j<n
   ·have QO:(j:Int)<(n:Int):=by omega
    have j0:(0:Int)<=(j:Int):=by omega
    obtain⟨e,he⟩:∃e,l[j]? =some e:=⟨_,List.getElem?_eq_getElem (by rw[<-HN.out];exact hjn)⟩;obtain⟨g,VP⟩:∃g,a=some ⟨g,0,none⟩:=by
     obtain⟨g,cg,hg⟩:=jq ST.out.o (by rw[<-HN.out];omega);injection hg with hg1
     exact⟨g,hg1⟩
    subst VP;have HE:=hid he;have HST:=hid (Im.DO (x:=x) he HC.out);have zc:Hid (x.gb (l.take (j+1)) ([],[])=none->∀W',Below w.heap.size w W'->Xa w x (.returned (.bool false)) W'):=λh W' hb=>ct.out (by rw[SF.out];exact Im.J5 h) W' hb
    clear he;go_wp2_with fail;have Y1:∀W,pj w p b off cap x ds r ci ak pt Q base (some ⟨g,0,none⟩) c l W->W.cell? ⟨g,j*2,none⟩=some (.int .u32 (e.1:Int)):=λW h=>(h.at HE.out).1
    have T0:=hid Y1;clear Y1;obtain⟨d,hd⟩:∃d,d=e.1:=⟨_,rfl⟩;rw[<-hd] at T0;have HD:=hid hd;clear hd
    by_cases lY:d<=x.ni
    ·have d1:decide ((x.ni:Int)+1<=(d:Int))=false:=decide_eq_false (by omega)
     have F8:(d:Int)<(x.ni:Int)+1:=by omega
     have d0:(0:Int)<=(d:Int):=by omega
     have Hl:(d:Int)<4294967296:=by omega
     have Ca:Hid (∀W,pj w p b off cap x ds r ci ak pt Q base (some ⟨g,0,none⟩) c l W->W.cell? ⟨r,d*16,none⟩=some (.int .u8 (x.ino d).kind)):=λW h=>h.k.k.i.ino (t:=d) (by omega) 0 rfl
     obtain⟨kd,fE⟩:∃kd,kd=(x.ino d).kind:=⟨_,rfl⟩;rw[<-fE] at Ca;have HKE:=hid fE;clear fE
     by_cases Dw:kd=0
     ·have q1:(kd==0)=true:=by simp[Dw]
      have HF:=hid (zc.out (by rw[HST.out];unfold Im.pB;rw[if_neg];intro h;rw[<-HD.out,<-HKE.out] at h;exact h.2.2 Dw));clear Dw;refine ai (pj w p b off cap x ds r ci ak pt Q base (some ⟨g,0,none⟩) c l) (by kernel_rfl) (by kernel_rfl) (ST.out.below ⟨rfl,rfl,rfl,Nat.le_refl _,λ_ _=>rfl⟩) ?_;clear ST;intro hne;have cA:∀y:aT (pj w p b off cap x ds r ci ak pt Q base (some ⟨g,0,none⟩) c l),y.W.cell? ⟨g,j*2,none⟩=some (.int .u32 (d:Int)):=λy=>T0.out _ y.h
      have c11:∀y:aT (pj w p b off cap x ds r ci ak pt Q base (some ⟨g,0,none⟩) c l),y.W.cell? ⟨p,11,none⟩=some (.slice (some ⟨r,0,none⟩) (x.ni+1) ci):=λy=>y.h.k.k.i.k.a.cell (i:=11) rfl
      have cK:∀y:aT (pj w p b off cap x ds r ci ak pt Q base (some ⟨g,0,none⟩) c l),y.W.cell? ⟨r,d*16,none⟩=some (.int .u8 kd):=λy=>Ca.out _ y.h
      repeat go_big_quiet_step (fail)
      refine wpQuiet_nil ?_;intro w3 h3;have eP:=hid h3.out;clear h3 hne cA c11 cK;go_wp2_with fail;go_ret;exact HF.out _ eP.out.k.bel
     have q1:(kd==0)=false:=by simp[Dw]
     have HKN:=hid Dw;clear Dw;refine ai (pj w p b off cap x ds r ci ak pt Q base (some ⟨g,0,none⟩) c l) (by kernel_rfl) (by kernel_rfl) (ST.out.below ⟨rfl,rfl,rfl,Nat.le_refl _,λ_ _=>rfl⟩) ?_;clear ST;intro hne;have cA:∀y:aT (pj w p b off cap x ds r ci ak pt Q base (some ⟨g,0,none⟩) c l),y.W.cell? ⟨g,j*2,none⟩=some (.int .u32 (d:Int)):=λy=>T0.out _ y.h
     have c11:∀y:aT (pj w p b off cap x ds r ci ak pt Q base (some ⟨g,0,none⟩) c l),y.W.cell? ⟨p,11,none⟩=some (.slice (some ⟨r,0,none⟩) (x.ni+1) ci):=λy=>y.h.k.k.i.k.a.cell (i:=11) rfl
     have cK:∀y:aT (pj w p b off cap x ds r ci ak pt Q base (some ⟨g,0,none⟩) c l),y.W.cell? ⟨r,d*16,none⟩=some (.int .u8 kd):=λy=>Ca.out _ y.h
     repeat go_big_quiet_step (fail)
     refine wpQuiet_nil ?_;intro w3 h3;have eP:=hid h3.out;clear h3 hne cA c11 cK;go_wp2_with fail;go_loopw [7] (λv wr=>∃q:Nat,q<=j/\v= .int .i64 (q:Int)/\(∀(i:Nat) (f:Nat×ByteArray),i<q->l[i]? =some f->f.2≠e.2)/\pj w p b off cap x ds r ci ak pt Q base (some ⟨g,0,none⟩) c l wr) (λv _=>j-(intOf v).toNat)
     case atStart=>exact⟨0,Nat.zero_le _,rfl,λi f h=>by omega,eP.out⟩
     clear eP;obtain⟨q,hq,rfl,hne,st⟩:=hrel;have zu:=hid hne;have ST:=hid st;clear hne st
     by_cases hqj:q<j
     ·have acC:(q:Int)<(j:Int):=by omega
      have Ya:(0:Int)<=(q:Int):=by omega
      have acB:(q:Int)<(n:Int):=by omega
      obtain⟨f,hf⟩:∃f,l[q]? =some f:=⟨_,List.getElem?_eq_getElem (by rw[<-HN.out];omega)⟩;have Ot:=hid hf;have wI:Hid (∀W,pj w p b off cap x ds r ci ak pt Q base (some ⟨g,0,none⟩) c l W->W.cell? ⟨g,j*2+1,none⟩=some (.string e.2)):=λW h=>(h.at HE.out).2
      have jA:Hid (∀W,pj w p b off cap x ds r ci ak pt Q base (some ⟨g,0,none⟩) c l W->W.cell? ⟨g,q*2+1,none⟩=some (.string f.2)):=λW h=>(h.at Ot.out).2
      obtain⟨Z,hZ⟩:∃Z,Z=(e.2.toList==f.2.toList):=⟨_,rfl⟩;have Y4:=hZ.symm;have HZ:Hid (Z=true↔f.2=e.2):=by
       show _↔_;rw[hZ,beq_iff_eq,ByteArray.toList_eq,ByteArray.toList_eq];exact⟨λh=>(wE h).symm,λh=>by rw[h]⟩
      clear hf hZ;obtain⟨s1,hs1⟩:∃s,s=e.2:=⟨_,rfl⟩;obtain⟨s2,hs2⟩:∃s,s=f.2:=⟨_,rfl⟩;rw[<-hs1] at wI Y4 HZ;rw[<-hs2] at jA Y4 HZ;have Pn:Hid (s1=e.2/\s2=f.2):=⟨hs1,hs2⟩;clear hs1 hs2;go_wp2_with fail;refine ai (pj w p b off cap x ds r ci ak pt Q base (some ⟨g,0,none⟩) c l) (by kernel_rfl) (by kernel_rfl) (ST.out.below ⟨rfl,rfl,rfl,Nat.le_refl _,λ_ _=>rfl⟩) ?_;clear ST;intro hne;have cA:∀y:aT (pj w p b off cap x ds r ci ak pt Q base (some ⟨g,0,none⟩) c l),y.W.cell? ⟨g,j*2+1,none⟩=some (.string s1):=λy=>wI.out _ y.h
      have cB:∀y:aT (pj w p b off cap x ds r ci ak pt Q base (some ⟨g,0,none⟩) c l),y.W.cell? ⟨g,q*2+1,none⟩=some (.string s2):=λy=>jA.out _ y.h
      repeat go_big_quiet_step (fail)
      refine wpQuiet_nil ?_;intro w4 h4;have eI:=hid h4.out;clear h4 hne cA cB;cases Z with
      |true=>
       have hsame:=HZ.out.1 rfl;have HF:=hid (zc.out (by
        rw[HST.out];unfold Im.pB;rw[if_neg];intro h;refine h.1 ?_;rw[<-Pn.out.1,<-hsame,Pn.out.2];exact List.mem_map.2 ⟨f,List.mem_of_getElem? (i:=q) (by rw[List.getElem?_take,if_pos hqj];exact Ot.out),rfl⟩))
       clear hsame;go_wp2_with fail;go_ret;exact HF.out _ eI.out.k.bel
      |false=>
       have Sq:Hid (∀(i:Nat) (f:Nat×ByteArray),i<q+1->l[i]? =some f->f.2≠e.2):=λi f' hi hf'=>by
        rcases Nat.lt_succ_iff_lt_or_eq.1 hi with h|h
        ·exact zu.out i f' h hf'
        subst h;have:=Ot.out;rw[hf'] at this;injection this with this
        rw[this];intro h2;rw[<-Pn.out.1,<-Pn.out.2] at h2;have:=HZ.out.2 h2;cases this
       go_wp2_with fail;go_roundw
       case rel=>(try((repeat apply Exists.intro);refine⟨?_,rfl⟩));exact⟨q+1,by omega,by go_num,Sq.out,eI.out⟩
       simp[intOf];omega
     obtain rfl:q=j:=by omega
     have Cc:Hid (x.gb (l.take (q+1)) ([],[])=some ((l.take (q+1)).map (λe=>e.2.data.toList),(l.take (q+1)).map (λe=>e.1))):=by
      show _=_;rw[HST.out];unfold Im.pB;rw[if_pos,List.take_add_one,HE.out,List.map_append,List.map_append]
      ·rfl
      refine⟨λhm=> ?_,by rw[<-HD.out];exact lY,by rw[<-HD.out,<-HKE.out];exact HKN.out⟩;obtain⟨f,hfm,hfe⟩:=List.mem_map.1 hm;obtain⟨i,hi⟩:=List.getElem?_of_mem hfm;rw[List.getElem?_take] at hi;split at hi
      ·rename_i jX
       exact zu.out i f jX hi (wE hfe)
      cases hi
     go_wp2_with fail;go_roundw
     case rel=>(try((repeat apply Exists.intro);refine⟨?_,rfl⟩));exact⟨q+1,by omega,by go_num,Cc.out,ST.out⟩
     simp[intOf];omega
    have d1:decide ((x.ni:Int)+1<=(d:Int))=true:=decide_eq_true (by omega);have HF:=hid (zc.out (by rw[HST.out];unfold Im.pB;rw[if_neg];intro h;rw[<-HD.out] at h;exact lY h.2.1));have Hl:(d:Int)<4294967296:=by have:=HTB.out _ l HLS.out e (List.mem_of_getElem? HE.out);rw[<-HD.out] at this;omega
    have d0:(0:Int)<=(d:Int):=by omega
    clear lY;refine ai (pj w p b off cap x ds r ci ak pt Q base (some ⟨g,0,none⟩) c l) (by kernel_rfl) (by kernel_rfl) (ST.out.below ⟨rfl,rfl,rfl,Nat.le_refl _,λ_ _=>rfl⟩) ?_;clear ST;intro hne;have cA:∀y:aT (pj w p b off cap x ds r ci ak pt Q base (some ⟨g,0,none⟩) c l),y.W.cell? ⟨g,j*2,none⟩=some (.int .u32 (d:Int)):=λy=>T0.out _ y.h
    have c11:∀y:aT (pj w p b off cap x ds r ci ak pt Q base (some ⟨g,0,none⟩) c l),y.W.cell? ⟨p,11,none⟩=some (.slice (some ⟨r,0,none⟩) (x.ni+1) ci):=λy=>y.h.k.k.i.k.a.cell (i:=11) rfl
    repeat go_big_quiet_step (fail)
    refine wpQuiet_nil ?_;intro w3 h3;have eP:=hid h3.out;clear h3 hne cA c11;go_wp2_with fail;go_ret;exact HF.out _ eP.out.k.bel
   obtain rfl:j=n:=by omega
   have HF:=hid (gi.out _ (by rw[SF.out];have:=HC.out;rwa[HN.out,List.take_length] at this));go_wp2_with fail;go_roundw
   case rel=>(try((repeat apply Exists.intro);refine⟨?_,rfl⟩));exact⟨k+1,_,by omega,by first|rfl|go_num,HF.out,ST.out.k⟩
   simp[intOf];omega
  have q0:((x.ino (k+1)).kind !=2)=true:=by simp[hk2]
  have HF:Hid (aS x.dF (k+1) (λ_=>[])=some u):=bA HU.out (by unfold Im.dF;rw[if_neg hk2]);clear hk2;generalize (x.ino (k+1)).kind=kd at*;go_wp2_with fail;go_roundw
  case rel=>(try((repeat apply Exists.intro);refine⟨?_,rfl⟩));exact⟨k+1,u,by omega,by first|rfl|go_num,HF.out,ST.out⟩
  simp[intOf];omega
 obtain rfl:k=x.ni:=by omega
 go_wp2_with fail;go_ret;exact⟨by rw[Im.BN,HU.out];rfl,ST.out.bel⟩
structure Tz(x:Im)(u:Nat->List Nat):Prop where
 z:u 0=[]
 no:∀t,1<=t->t<=x.ni->(x.ino t).kind≠2->u t=[]
 sl:∀t,1<=t->t<=x.ni->(x.ino t).kind=2->∃l,x.D7 t=some l/\u t=l.map (λe=>e.1)
 bd:∀t,(∀d∈u t,d<=x.ni)/\(u t).length<=600000
 kd:∀t,u t≠[]->(x.ino t).kind=2
theorem Im.uok{u:Nat->List Nat}(hM:∀t,1<=t->t<=x.ni->(x.ino t).ki)(h:x.mI=some u):Tz x u:=by
 refine⟨?_,?_,?_,λt=>Im.BO hM h t,λt hne=> ?_⟩
 ·rcases Im.qh h 0 with h|⟨h1,_⟩
  ·exact h.1
  omega
 ·intro t _ _ hk
  rcases Im.qh h t with h|⟨_,_,h2,_⟩
  ·exact h.1
  exact absurd h2 hk
 ·intro t h1 h2 hk
  rcases Im.qh h t with h|⟨_,_,_,r,hr,hu⟩
  ·exact absurd hk h.2
  rw[Im.BP] at hr;cases hs:x.D7 t with
  |none=>rw[hs] at hr;cases hr
  |some l=>
   rw[hs] at hr;have:=Im.ux (show x.gb l ([],[])=some r from hr);exact⟨l,rfl,by rw[hu,this];rfl⟩
 rcases Im.qh h t with h|⟨_,_,h2,_⟩
 ·exact absurd h.1 hne
 exact h2
structure Low(w:World)(p b r:Nat)(Q:List Im.Pt)(pt:Value):Prop where
 p:p<w.heap.size
 b:b<w.heap.size
 r:r<w.heap.size
 q:TD w Q pt
theorem wT.low{Q:List Im.Pt}(h:wT p b off cap x ds r ci ak pt Q w):Low w p b r Q pt:=⟨h.i.k.a.lt,h.i.k.bl,h.i.rl,h.q.bd⟩
theorem nX.only{Q:List Im.Pt}{W:World}(h:nX w p b off cap x ds r ci ak pt Q W)(ho:an g W W')(hg:w.heap.size<=g)(hl:Low w p b r Q pt):nX w p b off cap x ds r ci ak pt Q W':=
 h.grown ho.grown (λq e=>by injection e with e;omega) hl.p hl.b hl.r hl.q
structure uD(w:World)(p b off cap:Nat)(x:Im)(ds:Value)(r ci:Nat)(ak pt:Value)(Q:List Im.Pt)(g:Nat)(c:Nat->Nat)(W:World):Prop where
 k:nX w p b off cap x ds r ci ak pt Q W
 o:az W g 3 1 (x.ni+1) (mw c)
structure RM(w:World)(p b off cap:Nat)(x:Im)(ds:Value)(r ci:Nat)(ak pt:Value)(Q:List Im.Pt)(g:Nat)(a:Option Addr)(l:List (Nat×ByteArray))(c:Nat->Nat)(W:World):Prop where
 s:uD w p b off cap x ds r ci ak pt Q g c W
 d:l.length=0\/∃q,a=some ⟨q,0,none⟩/\q≠g/\q<W.heap.size/\∀(j:Nat) (e:Nat×ByteArray),l[j]? =some e->W.cell? ⟨q,j*2,none⟩=some (.int .u32 (e.1:Int))
section
variable {w:World} {p b off cap:Nat} {x:Im} {ds:Value} {r ci:Nat} {ak pt:Value} {Q:List Im.Pt} {g:Nat} {a:Option Addr} {l:List (Nat×ByteArray)} {c:Nat->Nat} {W W':World}
theorem uD.below(h:uD w p b off cap x ds r ci ak pt Q g c W)(hb:Below W.heap.size W W'):uD w p b off cap x ds r ci ak pt Q g c W':=⟨h.k.below hb,h.o.below hb⟩
theorem uD.set(h:uD w p b off cap x ds r ci ak pt Q g c W)(hv:v<x.ni+1)(t:Nat)(hg:w.heap.size<=g)(hl:Low w p b r Q pt):uD w p b off cap x ds r ci ak pt Q g (af c v t) (W.setCell ⟨g,v,none⟩ (.int .i64 (t:Int))):=by
 have ho:an g W (W.setCell ⟨g,v,none⟩ (.int .i64 (t:Int))):=an.setCell W ⟨g,v,none⟩ _;refine⟨h.k.only ho hg hl,?_⟩;have:=h.o.dz (k:=v) (j:=0) hv (by decide) (λi=>qZ c i) (.int .i64 (t:Int));rw[Nat.mul_one,Nat.add_zero] at this;refine this.congr λi hi=> ?_
 unfold mw af
 by_cases e:i=v
 ·rw[if_pos e,if_pos e];rfl
 rw[if_neg e,if_neg e]
theorem RM.set(h:RM w p b off cap x ds r ci ak pt Q g a l c W)(hv:v<x.ni+1)(t:Nat)(hg:w.heap.size<=g)(hl:Low w p b r Q pt):RM w p b off cap x ds r ci ak pt Q g a l (af c v t) (W.setCell ⟨g,v,none⟩ (.int .i64 (t:Int))):=by
 have ho:an g W (W.setCell ⟨g,v,none⟩ (.int .i64 (t:Int))):=an.setCell W ⟨g,v,none⟩ _;refine⟨h.s.set hv t hg hl,?_⟩;rcases h.d with h0|⟨q,e,hq,hs,hd⟩
 ·exact .inl h0
 exact .inr ⟨q,e,hq,by rw[ho.size];exact hs,λj e' he=>(ho.cell (p:=⟨q,j*2,none⟩) hq).trans (hd j e' he)⟩
end
theorem tT:(Tryz.prog.info? 3).map (λi=>(i.zero,i.size,i.bytes))=some (some (.int .i64 0),1,8):=by kernel_rfl
theorem zQ(n:Nat)(hn:n<=2048)(W:World):(Instr.makeSlice 37 (.int .i64 (n:Int)) (.int .i64 (n:Int))).run Tryz.prog W= .ok (.slice (some ⟨W.heap.size,0,none⟩) n n) (W.alloc (.cells (madeCells #[.int .i64 0] n) 3)):=by
 have h:=dg (P:=Tryz.prog) 37 3 (.int .i64 0) 1 8 Tryz.underlying37 tT .i64 .i64 n (by omega) (by omega) W;rw[Nat.mul_one] at h;exact h
theorem vh(hx:x.Ok)(ko:∀t,1<=t->t<=x.ni->(x.ino t).ki)(p b off cap:Nat)(ds:Value)(r ci:Nat)(ak pt:Value)(Q:List Im.Pt)(hQ:RR x Q)(u:Nat->List Nat)(hU:Tz x u)(w:World)(h:wT p b off cap x ds r ci ak pt Q w):
  Calls Tryz.prog 155 #[.pointer (some ⟨p,0,none⟩)] w λe w'=>∃g,e= .returned (.slice (some ⟨g,0,none⟩) (x.ni+1) (x.ni+1))/\w.heap.size<=g/\az w' g 3 1 (x.ni+1) (mw λt=>Im.cnt u t (x.ni+1))/\Below w.heap.size w w':=by
 have hni:x.ni<=256:=eK hx.may;have zt:Hid (∀t,1<=t->t<=x.ni->(x.ino t).kind=2->∀W,wT p b off cap x ds r ci ak pt Q W->Calls Tryz.prog 154 #[.pointer (some ⟨p,0,none⟩),.int .i64 (t:Int)] W λe w'=>TA W x t e w'):=λt h1 h2 hk W hW=>kI hx ko p b off cap ds r ci ak pt Q hQ.len t h1 h2 (hQ.blk t h1 h2 hk) (hQ.lt t h1 h2 hk) W hW
 have HU:=hid hU;have pH:=hid h.low;have c11:w.cell? ⟨p,11,none⟩=some (.slice (some ⟨r,0,none⟩) (x.ni+1) ci):=h.i.k.a.cell (i:=11) rfl;obtain⟨g,hg⟩:∃g,g=w.heap.size:=⟨_,rfl⟩;have hmk:(Instr.makeSlice 37 (.int .i64 ((x.ni:Int)+1)) (.int .i64 ((x.ni:Int)+1))).run Tryz.prog w= .ok (.slice (some ⟨g,0,none⟩) (x.ni+1) (x.ni+1)) (w.alloc (.cells (madeCells #[.int .i64 0] (x.ni+1)) 3)):=by
  rw[hg];exact zQ (x.ni+1) (by omega) w
 obtain⟨W1,hW1⟩:∃W1,W1=w.alloc (.cells (madeCells #[.int .i64 0] (x.ni+1)) 3):=⟨_,rfl⟩;have hb1:Below w.heap.size w W1:=by rw[hW1];exact(Below.refl _ _).alloc (Nat.le_refl _) _
 have hr1:az W1 g 3 1 (x.ni+1) (mw λt=>Im.cnt u t 1):=by
  have e:(λt=>Im.cnt u t 1)=λ_=>0:=by
   funext t
   show 0+(u 0).count t=0;rw[hU.z];rfl
  rw[hW1,hg,e];have:=(az.made (m:=1) w #[.int .i64 0] rfl (by omega) (x.ni+1) 3);rw[Nat.mul_one] at this;exact this
 have kS:uD w p b off cap x ds r ci ak pt Q g (λt=>Im.cnt u t 1) W1:=⟨⟨h.below hb1,hb1⟩,hr1⟩;have aV:=hid kS;have sH:Hid (w.heap.size<=g):=by show _<=_;omega
 have Ux:(0:Int)<=(x.ni:Int)+1:=by omega
 rw[<-hW1] at hmk;clear h hb1 hr1 hW1 hx hg ko hQ hU kS;go_enter Tryz.func155,Tryz.ntmps155;go_wp2_with fail;clear c11 hmk;go_loopw [4,5,6,7] (λv _ _ _ wr=>∃k:Nat,k<=x.ni/\v= .int .i64 ((k:Int)+1)/\uD w p b off cap x ds r ci ak pt Q g (λt=>Im.cnt u t (k+1)) wr) (λv _ _ _ _=>x.ni+1-(intOf v).toNat)
 case atStart=>exact⟨0,Nat.zero_le _,rfl,aV.out⟩
 clear aV;obtain⟨k,hk,rfl,st⟩:=hrel;have ST:=hid st;have c11:wr.cell? ⟨p,11,none⟩=some (.slice (some ⟨r,0,none⟩) (x.ni+1) ci):=st.k.k.i.k.a.cell (i:=11) rfl;clear st
 by_cases hlt:k<x.ni
 ·have hlt':(k:Int)+1<(x.ni:Int)+1:=by omega
  have k0:(0:Int)<=(k:Int)+1:=by omega
  have cK:wr.cell? ⟨r,(k+1)*16,none⟩=some (.int .u8 (x.ino (k+1)).kind):=ST.out.k.k.i.ino (t:=k+1) (by omega) 0 rfl
  by_cases hk2:(x.ino (k+1)).kind=2
  ·have q0:((x.ino (k+1)).kind==2)=true:=by simp[hk2]
   have H7:=hid (zt.out (k+1) (by omega) (by omega) hk2);have Xw:=hid (HU.out.sl (k+1) (by omega) (by omega) hk2);clear hk2;generalize (x.ino (k+1)).kind=kd at*;go_wp2_with fail;refine(H7.out wr ST.out.k.k).mono ?_;rintro e w1 ⟨hb1,hC⟩;have aV:=hid (ST.out.below hb1);have LR:Hid (g<wr.heap.size/\wr.heap.size<=w1.heap.size):=⟨ST.out.o.lt,hb1.size⟩;obtain⟨l,a,c,rfl,Jm,ho⟩:∃l a c,e= .returned (.tuple #[.slice a l.length c,.bool true])/\u (k+1)=l.map (λe=>e.1)/\w1.ownsRow wr.heap.size 90 2 (.slice a l.length c) l.length (lP l):=by
    obtain⟨l',yo,hl2⟩:=Xw.out;rcases hC with⟨hs,_⟩|⟨l,a,c,hs,he,ho⟩
    ·rw[yo] at hs;cases hs
    rw[yo] at hs;injection hs with hs;subst hs;exact⟨l',a,c,he,hl2,ho⟩
   have cf:Hid (RM w p b off cap x ds r ci ak pt Q g a l (λt=>Im.cnt u t (k+1)) w1):=⟨aV.out,by
    by_cases h0:l.length=0
    ·exact .inl h0
    obtain⟨q,cg,hq⟩:=jq ho (by omega);injection hq with hq1 _ _
    subst hq1;have sZ:=World.ownsRow.lt ho q rfl;refine .inr ⟨q,rfl,by have:=LR.out.1;omega,sZ.2,λj e he=> ?_⟩;have k1:=ho.cells (g:=q) rfl _ _ (pM he).1;rw[bh,Nat.zero_add] at k1;exact k1⟩
   have Ob:=hid Jm;have Hi:l.length<=600000:=by have:=(HU.out.bd (k+1)).2;rw[Jm,List.length_map] at this;exact this
   have L2:Hid (∀(j:Nat) (e:Nat×ByteArray),l[j]? =some e->e.1<=x.ni):=λj e he=>(HU.out.bd (k+1)).1 e.1 (by rw[Ob.out];exact List.mem_map.2 ⟨e,List.mem_of_getElem? he,rfl⟩)
   obtain⟨n,hn⟩:∃n,n=l.length:=⟨_,rfl⟩;have HN:=hid hn;rw[<-hn] at Hi ⊢;clear aV ho Jm hC hb1 ST c11 cK hn;go_wp2_with fail;go_loopw [7] (λv wr=>∃j:Nat,j<=n/\v= .int .i64 (j:Int)/\RM w p b off cap x ds r ci ak pt Q g a l (λt=>Im.cnt u t (k+1)+((u (k+1)).take j).count t) wr) (λv _=>n-(intOf v).toNat)
   case atStart=>exact⟨0,Nat.zero_le _,rfl,by simpa using cf.out⟩
   clear cf;obtain⟨j,hj,rfl,st⟩:=hrel;have ST:=hid st;clear st
   by_cases hjn:j<n
   ·have QO:(j:Int)<(n:Int):=by omega
    have j0:(0:Int)<=(j:Int):=by omega
    obtain⟨q,Ge,Qx⟩:∃q,a=some ⟨q,0,none⟩/\∀(j:Nat) (e:Nat×ByteArray),l[j]? =some e->wr.cell? ⟨q,j*2,none⟩=some (.int .u32 (e.1:Int)):=by
     rcases ST.out.d with h|⟨q,e,_,_,hd⟩
     ·have:=HN.out;omega
     exact⟨q,e,hd⟩
    subst Ge;obtain⟨e,he⟩:∃e,l[j]? =some e:=⟨_,List.getElem?_eq_getElem (by rw[<-HN.out];exact hjn)⟩;have cD:=Qx j e he;have QW:=L2.out j e he;have tX:(u (k+1))[j]? =some e.1:=by rw[Ob.out,List.getElem?_map,he];rfl
    obtain⟨d,hd⟩:∃d,d=e.1:=⟨_,rfl⟩;rw[<-hd] at cD QW tX;have F8:(d:Int)<(x.ni:Int)+1:=by omega
    have d0:(0:Int)<=(d:Int):=by omega
    obtain⟨cv,hcv⟩:∃cv,cv=Im.cnt u d (k+1)+((u (k+1)).take j).count d:=⟨_,rfl⟩;have cC:=ST.out.s.o.jU (show d<x.ni+1 by omega) (v:=.int .i64 (cv:Int)) (by rw[hcv];rfl);have VV:(cv:Int)<=1000000000:=by
     have h1:=Im.wk (λt=>(HU.out.bd t).2) d (k+1);have h2:((u (k+1)).take j).count d<=((u (k+1)).take j).length:=List.count_le_length;have h3:((u (k+1)).take j).length<=(u (k+1)).length:=by rw[List.length_take];omega
     have h4:=(HU.out.bd (k+1)).2;omega
    have cv0:(0:Int)<=(cv:Int):=by omega
    have fC:=ST.out.s.o.soft d;have fv:=ST.out.set (v:=d) (by omega) (cv+1) sH.out pH.out;rw[show((cv+1:Nat):Int)=(cv:Int)+1 by omega] at fv;have hfun:af (λt=>Im.cnt u t (k+1)+((u (k+1)).take j).count t) d (cv+1)=λt=>Im.cnt u t (k+1)+((u (k+1)).take (j+1)).count t:=by
     funext t
     rw[List.take_add_one,tX,List.count_append];unfold af
     by_cases e:t=d
     ·subst e;rw[if_pos rfl,hcv];simp;omega
     rw[if_neg e];have:(Option.some d).toList.count t=0:=by simp[List.count_cons];omega
     rw[this];rfl
    rw[hfun] at fv;have fv:=hid fv;clear hd tX hcv hfun he Qx QW;go_wp2_with fail;go_roundw
    case rel=>(try((repeat apply Exists.intro);refine⟨?_,rfl⟩));exact⟨j+1,by omega,by first|rfl|go_num,fv.out⟩
    simp[intOf]<;>omega
   obtain rfl:j=n:=by omega
   have fv:Hid (uD w p b off cap x ds r ci ak pt Q g (λt=>Im.cnt u t (k+1+1)) wr):=by
    have h0:=ST.out.s;have e:(u (k+1)).take j=u (k+1):=by rw[Ob.out,HN.out];exact List.take_of_length_le (by rw[List.length_map];exact Nat.le_refl _)
    rw[e] at h0;exact h0
   go_wp2_with fail;go_roundw
   case rel=>(try((repeat apply Exists.intro);refine⟨?_,rfl⟩));exact⟨k+1,by omega,by first|rfl|go_num,fv.out⟩
   simp[intOf]<;>omega
  have q0:((x.ino (k+1)).kind==2)=false:=by simp[hk2]
  have fv:Hid (uD w p b off cap x ds r ci ak pt Q g (λt=>Im.cnt u t (k+1+1)) wr):=by
   have e:(λt=>Im.cnt u t (k+1+1))=λt=>Im.cnt u t (k+1):=by
    funext t
    show Im.cnt u t (k+1)+(u (k+1)).count t=_;rw[HU.out.no (k+1) (by omega) (by omega) hk2];rfl
   show uD _ _ _ _ _ _ _ _ _ _ _ _ _ _ _;rw[e];exact ST.out
  clear hk2;generalize (x.ino (k+1)).kind=kd at*;go_wp2_with fail;go_roundw
  case rel=>(try((repeat apply Exists.intro);refine⟨?_,rfl⟩));exact⟨k+1,by omega,by first|rfl|go_num,fv.out⟩
  simp[intOf]<;>omega
 obtain rfl:k=x.ni:=by omega
 go_wp2_with fail;go_ret;exact⟨g,rfl,sH.out,ST.out.o,ST.out.k.bel⟩
theorem vk(hx:x.Ok)(ko:∀t,1<=t->t<=x.ni->(x.ino t).ki)(p b off cap:Nat)(ds:Value)(r ci:Nat)(ak pt:Value)(Q:List Im.Pt)(hQ:RR x Q)(u:Nat->List Nat)(hU:Tz x u)(tW:1<=x.ni)(w:World)(h:wT p b off cap x ds r ci ak pt Q w):
  Calls Tryz.prog 121 #[.pointer (some ⟨p,0,none⟩)] w λe w'=>e= .returned (.bool (aD (λt=>x.gL u (t+1)) x.ni))/\Below w.heap.size w w':=by
 have hni:x.ni<=256:=eK hx.may;have HST:=hid (vh hx ko p b off cap ds r ci ak pt Q hQ u hU w h);have HK:=hid h;have HU:=hid hU;rw[Im.E4 tW];obtain⟨N,hN⟩:∃N,x.ni=N+1:=⟨x.ni-1,by omega⟩;rw[show x.ni-1=N by omega];have HN:=hid hN;clear h hx ko hQ hU hN;go_enter Tryz.func121,Tryz.ntmps121;go_wp2_with fail;refine HST.out.mono ?_;rintro e w1 ⟨g,rfl,hg,hr,hb⟩;have cX:Hid (uD w p b off cap x ds r ci ak pt Q g (λt=>Im.cnt u t (x.ni+1)) w1):=⟨⟨HK.out.below hb,hb⟩,hr⟩;clear HST HK hg hr hb;go_wp2_with fail;go_loopw [4] (λv wr=>∃k:Nat,k<=N/\v= .int .i64 ((k:Int)+2)/\(∀j,j<k->x.oh u (j+2)=true)/\uD w p b off cap x ds r ci ak pt Q g (λt=>Im.cnt u t (x.ni+1)) wr) (λv _=>x.ni+1-(intOf v).toNat)
 case atStart=>exact⟨0,Nat.zero_le _,rfl,λj h=>by omega,cX.out⟩
 clear cX;obtain⟨k,hk,rfl,hP,st⟩:=hrel;have HP:=hid hP;have ST:=hid st;have c11:wr.cell? ⟨p,11,none⟩=some (.slice (some ⟨r,0,none⟩) (x.ni+1) ci):=st.k.k.i.k.a.cell (i:=11) rfl;clear hP st
 by_cases hlt:k<N
 ·have hlt':(k:Int)+2<(x.ni:Int)+1:=by have:=HN.out;omega
  have k0:(0:Int)<=(k:Int)+2:=by omega
  have hk2:k+2<x.ni+1:=by have:=HN.out;omega
  have XK:=hid hk2;have iE:Hid (x.oh u (k+2)= !(((x.ino (k+2)).kind==1&&(((Im.cnt u (k+2) (x.ni+1):Nat):Int) !=(x.ino (k+2)).aJ))||((x.ino (k+2)).kind==2&&(((Im.cnt u (k+2) (x.ni+1):Nat):Int) !=1)))):=rfl;have HA:Hid (∀W,uD w p b off cap x ds r ci ak pt Q g (λt=>Im.cnt u t (x.ni+1)) W->W.cell? ⟨r,(k+2)*16,none⟩=some (.int .u8 (x.ino (k+2)).kind)/\W.cell? ⟨r,(k+2)*16+1,none⟩=some (.int .i64 (x.ino (k+2)).aJ)/\W.cell? ⟨g,k+2,none⟩=some (.int .i64 ((Im.cnt u (k+2) (x.ni+1):Nat):Int))):=λW h=>⟨h.k.k.i.ino hk2 0 rfl,h.k.k.i.ino hk2 1 rfl,h.o.jU hk2 rfl⟩
  have ct:Hid (x.oh u (k+2)=false->aD (λt=>x.oh u (t+2)) N=false):=λh=>bJ (p:=λt=>x.oh u (t+2)) hlt h
  have gi:Hid (x.oh u (k+2)=true->∀j,j<k+1->x.oh u (j+2)=true):=λh j hj=>by
   rcases Nat.lt_succ_iff_lt_or_eq.1 hj with h1|h1
   ·exact HP.out j h1
   rw[h1];exact h
  generalize x.oh u (k+2)=ck at*;generalize (x.ino (k+2)).kind=kd at*;generalize (x.ino (k+2)).aJ=lk at*;obtain⟨cv,hcv⟩:∃cv,cv=Im.cnt u (k+2) (x.ni+1):=⟨_,rfl⟩;rw[<-hcv] at iE HA;clear hcv hk2;obtain⟨C1,Gh⟩:∃C,C=(kd==1):=⟨_,rfl⟩;obtain⟨C2,Ef⟩:∃C,C=((cv:Int) !=lk):=⟨_,rfl⟩;obtain⟨C3,Ee⟩:∃C,C=(kd==2):=⟨_,rfl⟩;obtain⟨C4,WE⟩:∃C,C=((cv:Int) !=1):=⟨_,rfl⟩;have g1:=Gh.symm;have g2:=Ef.symm;have g3:=Ee.symm;have g4:=WE.symm;have HC:Hid (ck= !((C1&&C2)||(C3&&C4))):=by show _=_;rw[iE.out,Gh,Ef,Ee,WE]
  clear Gh Ef Ee WE iE;go_wp2_with fail;clear c11;refine ai (uD w p b off cap x ds r ci ak pt Q g (λt=>Im.cnt u t (x.ni+1))) (by kernel_rfl) (by kernel_rfl) (ST.out.below ⟨rfl,rfl,rfl,Nat.le_refl _,λ_ _=>rfl⟩) ?_;clear ST;intro hne;have c11:∀y:aT (uD w p b off cap x ds r ci ak pt Q g (λt=>Im.cnt u t (x.ni+1))),y.W.cell? ⟨p,11,none⟩=some (.slice (some ⟨r,0,none⟩) (x.ni+1) ci):=λy=>y.h.k.k.i.k.a.cell (i:=11) rfl
  have cK:∀y:aT (uD w p b off cap x ds r ci ak pt Q g (λt=>Im.cnt u t (x.ni+1))),y.W.cell? ⟨r,(k+2)*16,none⟩=some (.int .u8 kd):=λy=>(HA.out _ y.h).1
  have cL:∀y:aT (uD w p b off cap x ds r ci ak pt Q g (λt=>Im.cnt u t (x.ni+1))),y.W.cell? ⟨r,(k+2)*16+1,none⟩=some (.int .i64 lk):=λy=>(HA.out _ y.h).2.1
  have cC:∀y:aT (uD w p b off cap x ds r ci ak pt Q g (λt=>Im.cnt u t (x.ni+1))),y.W.cell? ⟨g,k+2,none⟩=some (.int .i64 (cv:Int)):=λy=>(HA.out _ y.h).2.2
  cases C1<;>cases C2<;>cases C3<;>cases C4
  all_goals
   repeat go_big_quiet_step (fail)
   refine wpQuiet_nil ?_;intro w3 h3;have eP:=hid h3.out;clear h3 hne c11 cK cL cC;go_wp2_with fail
   first
   |(go_roundw
     case rel=>(try((repeat apply Exists.intro);refine⟨?_,rfl⟩));exact⟨k+1,by omega,by go_num,gi.out HC.out,eP.out⟩
     simp[intOf];omega)
   |(go_ret
     exact⟨by rw[ct.out HC.out];rfl,eP.out.k.bel⟩)
 obtain rfl:k=N:=by omega
 have hlt':¬(k:Int)+2<(x.ni:Int)+1:=by have:=HN.out;omega
 have n1:(1:Int)<(x.ni:Int)+1:=by omega
 have eJ:Hid (aD (λt=>x.oh u (t+2)) k=true):=(aP (λt=>x.oh u (t+2)) _).2 HP.out;have cC:wr.cell? ⟨g,1,none⟩=some (.int .i64 ((Im.cnt u 1 (x.ni+1):Nat):Int)):=ST.out.o.jU (by omega) rfl;obtain⟨cv,hcv⟩:∃cv,cv=Im.cnt u 1 (x.ni+1):=⟨_,rfl⟩;rw[<-hcv] at cC;have HCV:=hid hcv;clear hcv;go_wp2_with fail;go_ret;exact⟨by rw[eJ.out,Im.vE,<-HCV.out];rfl,ST.out.k.bel⟩
end Go.Proofs.YtphamecphmbipaaGreatDoor
