/- Texts of this claim, merged. -/
import Derived.Test.YtphamecphmbipaaGreatDoorK34
import Derived.Deep.CutRange
set_option linter.unusedVariables false
namespace Go.Proofs.YtphamecphmbipaaGreatDoor
open Go.RowKit
open Lib (hid)
variable {w W':World} {p b off cap r ci g q t l:Nat} {x:Im} {ds pt v v':Value} {m:Nat->Bool}
structure A3(w:World)(p b off cap:Nat)(x:Im)(ds:Value)(r ci g:Nat)(m:Nat->Bool)(pt:Value)(Q:List Im.Pt)(v:Value)(td:List Im.Pt)(W:World):Prop where
 s:wG w p b off cap x ds r ci g m pt Q W
 t:fq W w.heap.size 194 4 v td.length (td.flatMap lU)
 ne:∀q,pt.ownBlock=some q->v.ownBlock≠some q
theorem A3.below{Q:List Im.Pt}{td:List Im.Pt}{W:World}(h:A3 w p b off cap x ds r ci g m pt Q v td W)(hb:Below W.heap.size W W'):A3 w p b off cap x ds r ci g m pt Q v td W':=⟨h.s.below hb,h.t.below hb,h.ne⟩
theorem A3.app{Q:List Im.Pt}{td:List Im.Pt}{W:World}(h:A3 w p b off cap x ds r ci g m pt Q v td W){y:Im.Pt}(hq:fq W' w.heap.size 194 4 v' (td.length+1) (td.flatMap lU++lU y))(hg:W.grownBy W' v.ownBlock)(hn:∀q,v'.ownBlock=some q->v.ownBlock=some q\/W.heap.size<=q):A3 w p b off cap x ds r ci g m pt Q v' (td++[y]) W':=by
 refine⟨h.s.grown hg (λq e=>(h.t.own e).1) h.ne,?_,λq hq e=> ?_⟩
 ·rw[List.length_append,List.flatMap_append]
  show fq W' _ _ 4 v' (td.length+1) (td.flatMap lU++(lU y++[]));rw[List.append_nil];exact hq
 ·rcases hn q e with e2|e2
  ·exact h.ne q hq e2
  ·have:=(World.ownsRow.lt h.s.q q hq).2;omega
theorem MK(y:aK)(hq:q<11):y.arr[4+q]? =some (.int .u32 (y.p q)):=by
 match q,hq with
 |0,_=>rfl
 |1,_=>rfl
 |2,_=>rfl
 |3,_=>rfl
 |4,_=>rfl
 |5,_=>rfl
 |6,_=>rfl
 |7,_=>rfl
 |8,_=>rfl
 |9,_=>rfl
 |10,_=>rfl
 |q+11,h=>omega
theorem Mq{z:Nat}(hz:z<11):(x.tH t)[z]? =some ⟨t,((x.ino t).p z).toNat,Im.fst z,Im.lvl z⟩:=by
 unfold Im.tH;rw[List.getElem?_map,List.getElem?_range hz];rfl
theorem Bj:(x.tH t).length=11:=by unfold Im.tH;simp
def RK(T:Nat)(cells:Array Value)(N:Value->World->Prop)(l:Nat->Bool)(i:Nat)(v:Value)(W:World):Prop:=
 if i=19 then∃g0,v= .slice (some ⟨g0,0,none⟩) 1 1/\(l 20=false->At W g0 T cells) else if i=20\/i=21 then N v W else True
theorem RK.up{T:Nat}{cells:Array Value}{N:Value->World->Prop}{l l':Nat->Bool}{i:Nat}{W:World}(h:RK T cells N l i v W)
  (h6:∀g0,i=19->l' 20=false->l 20=false/\(At W g0 T cells->At W' g0 T cells)) (h7:∀v,(i=20\/i=21)->N v W->N v W'):RK T cells N l' i v W':=by
 unfold RK at h ⊢;split<;>rename_i c1
 ·rw[if_pos c1] at h
  obtain⟨g0,h1,h2⟩:=h;exact⟨g0,h1,λe=>(h6 g0 c1 e).2 (h2 (h6 g0 c1 e).1)⟩
 rw[if_neg c1] at h;split<;>rename_i c2
 ·rw[if_pos c2] at h
  exact h7 v c2 h
 trivial
structure S7a(C B:World->Prop)(l:Nat->Bool)(W:World):Prop where
 c:C W
 b:l 20=false->B W
 o:l 21=true->l 20=true
theorem Mp:∀y∈x.tH t,y.l<4:=by
 intro y hy;obtain⟨q,hq,rfl⟩:=List.mem_map.1 hy;exact vG (List.mem_range.1 hq)
theorem Jb{y:Im.Pt}(h:y.l<4):∀z∈x.kids y,z.l<4:=by
 intro z hz;unfold Im.kids at hz;split at hz
 ·cases hz
 ·rename_i l e
  obtain⟨k,_,rfl⟩:=List.mem_map.1 hz;show l<4;omega
theorem Ih(W:World):(zeroValue 194).run Tryz.prog W= .ok (.agg #[.int .i64 0,.int .i64 0,.int .i64 0,.int .i64 0]) W:=by kernel_rfl
theorem N3(y:Im.Pt):(lU y).toArray.all (·.oneCell')=true:=by kernel_rfl
theorem rA:(Tryz.prog.info? 194).map (·.size)=some 4:=by kernel_rfl
theorem EU(g2 o2 o3 n c2:Nat)(h:sliced (some ⟨g2,o2,none⟩) 1 (n+1) c2 4= .slice (some ⟨g2,o3,none⟩) n (c2-1))(W:World):(Instr.slice 155 (.slice (some ⟨g2,o2,none⟩) (n+1) c2) (some (.int .i64 1)) none none).run Tryz.prog W= .ok (.slice (some ⟨g2,o3,none⟩) n (c2-1)) W:=by
 rw[run_slice_l (P:=Tryz.prog) W 155 (some ⟨g2,o2,none⟩) (n+1) c2 (by kernel_rfl) .i64 1 (by decide) (by omega),show(Go.sizeOf (Tryz.prog.elem 155)).run Tryz.prog W= .ok 4 W from by kernel_rfl,Result.andThen_ok];show Result.ok (sliced _ 1 (n+1) c2 4) W=_;rw[h]
structure yY(w:World)(p b off cap:Nat)(x:Im)(ds:Value)(r ci g:Nat)(m:Nat->Bool)(pt:Value)(Q:List Im.Pt)(v:Value)(td:List Im.Pt)(X:Nat)(y:Im.Pt)(W:World):Prop where
 t:A3 w p b off cap x ds r ci g m pt Q v td W
 x:At W X 194 (lU y).toArray
 np:pt.ownBlock≠some X
 nv:v.ownBlock≠some X
 lx:w.heap.size<=X
theorem yY.below{Q:List Im.Pt}{td:List Im.Pt}{X:Nat}{y:Im.Pt}{W:World}(h:yY w p b off cap x ds r ci g m pt Q v td X y W)(hb:Below W.heap.size W W'):yY w p b off cap x ds r ci g m pt Q v td X y W':=⟨h.t.below hb,h.x.below hb h.x.lt,h.np,h.nv,h.lx⟩
structure N8(w:World)(p b off cap:Nat)(x:Im)(ds:Value)(r ci g:Nat)(m:Nat->Bool)(pt:Value)(Q:List Im.Pt)(v:Value)(td:List Im.Pt)(X:Nat)(y:Im.Pt)(nB:Value)(W:World):Prop where
 s:sq p b off cap x ds r ci (.slice (some ⟨g,0,none⟩) (x.ni+1) (x.ni+1)) pt W
 o:az W g 4 1 (x.ni+1) (kr m)
 q:ah W w.heap.size 194 4 nB (Q++[y]).length (zl (Q++[y]))
 gr:dJ (JP p) w W
 lo:p<w.heap.size/\b<w.heap.size/\r<w.heap.size/\g<w.heap.size
 t:fq W w.heap.size 194 4 v td.length (td.flatMap lU)
 ne:∀q,nB.ownBlock=some q->v.ownBlock≠some q
 x:At W X 194 (lU y).toArray
 np:nB.ownBlock≠some X
 nv:v.ownBlock≠some X
 lx:w.heap.size<=X
section
variable {w:World} {p b off cap:Nat} {x:Im} {ds:Value} {r ci g:Nat} {m:Nat->Bool} {pt:Value} {Q:List Im.Pt} {v:Value} {td:List Im.Pt} {X:Nat} {y:Im.Pt} {nB:Value} {W W':World}
theorem N8.below(h:N8 w p b off cap x ds r ci g m pt Q v td X y nB W)(hb:Below W.heap.size W W'):N8 w p b off cap x ds r ci g m pt Q v td X y nB W':=⟨h.s.below hb,h.o.below hb,h.q.below hb,h.gr.trans (dJ.bQ hb),h.lo,h.t.below hb,h.ne,h.x.below hb h.x.lt,h.np,h.nv,h.lx⟩
theorem yY.Rl(h:yY w p b off cap x ds r ci g m pt Q v td X y W)(hg:W.grownBy W' pt.ownBlock)(ho:W'.ownsRow w.heap.size 194 4 nB (Q.length+1) (Cs (zl Q) Q.length++lU y))(hn:nB.ownBlock=pt.ownBlock\/nB.ownBlock=some W.heap.size):N8 w p b off cap x ds r ci g m pt Q v td X y nB W':=by
 have hl:∀q,pt.ownBlock=some q->w.heap.size<=q:=λq hq=>(World.ownsRow.lt h.t.s.q q hq).1
 have n1:∀j,j<w.heap.size->pt.ownBlock≠some j:=λj hj e=>by have:=hl j e;omega
 obtain⟨h1,h2,h3,h4⟩:=h.t.s.lo;have hs:=h.t.s.s;refine⟨⟨⟨dq hs.k.a hg (n1 p h1),aF.fF hs.k.i hg hs.k.bl (λe=>n1 b h2 e.symm),Nat.lt_of_lt_of_le hs.k.bl hg.size⟩,aF.fF hs.i hg hs.rl (λe=>n1 r h3 e.symm),Nat.lt_of_lt_of_le hs.rl hg.size⟩,h.t.s.o.grown hg (λe=>n1 g h4 e.symm),?_,h.t.s.gr.AH hg hl,h.t.s.lo,h.t.t.kept hg (λq _ e=>h.t.ne q e),λq hq e=> ?_,dq h.x hg h.np,λe=> ?_,h.nv,h.lx⟩
 ·rw[List.length_append]
  show W'.ownsRow _ _ 4 nB (Q.length+1) (Cs (zl (Q++[y])) (Q.length+1));rw[lN,IT,gC λk hk=>IU Q y hk];exact ho
 ·rcases hn with e2|e2
  ·exact h.t.ne q (e2.symm.trans hq) e
  ·rw[hq] at e2
   injection e2 with e2
   obtain⟨_,cur,hc⟩:=h.t.t.own e;have:=(Array.getElem?_eq_some_iff.1 hc).1;omega
 ·rcases hn with e2|e2
  ·exact h.np (e2.symm.trans e)
  ·rw[e] at e2
   injection e2 with e2
   have:=h.x.lt;omega
theorem N8.store(h:N8 w p b off cap x ds r ci g m pt Q v td X y nB W)(mP:b≠p)(Dr:r≠p):yY w p b off cap x ds r ci g m nB (Q++[y]) v td X y (W.setCell ⟨p,13,none⟩ nB):=by
 have ho:an p W (W.setCell ⟨p,13,none⟩ nB):=an.setCell W ⟨p,13,none⟩ nB;obtain⟨h1,h2,h3,h4⟩:=h.lo;have OT:g≠p:=λe=>by obtain⟨c,hc,_⟩:=h.o.blk;exact At.cR h.s.k.a hc (by decide) e.symm
 exact⟨⟨⟨h.s.PQ mP Dr nB,h.o.only ho OT,eT h.q ho (λe=>by have:=(World.ownsRow.lt h.q p e).1;omega),h.gr.trans (dJ.bW ho rfl),h.lo⟩,h.t.kept (fp ho) (λq hq e=>by injection e with e;omega),h.ne⟩,h.x.only ho (λe=>by have:=h.lx;omega),h.np,h.nv,h.lx⟩
theorem yY.app(h:yY w p b off cap x ds r ci g m pt Q v td X y W){z:Im.Pt}(hq:fq W' w.heap.size 194 4 v' (td.length+1) (td.flatMap lU++lU z))(hg:W.grownBy W' v.ownBlock)(hn:∀q,v'.ownBlock=some q->v.ownBlock=some q\/W.heap.size<=q):yY w p b off cap x ds r ci g m pt Q v' (td++[z]) X y W':=
 ⟨h.t.app hq hg hn,dq h.x hg h.nv,h.np,λe=>by
  rcases hn X e with e2|e2
  ·exact h.nv e2
  ·have:=h.x.lt;omega,h.lx⟩
end
theorem Jc{y:Im.Pt}{n:Nat}(hl:y.l=l+1)(hn:n<64):(x.kids y)[n]? =some (x.kid y l n):=by
 unfold Im.kids;rw[hl];show((List.range 64).map (x.kid y l))[n]? =_;rw[List.getElem?_map,List.getElem?_range hn];rfl
theorem Ja{y:Im.Pt}(hl:y.l=l+1):(x.kids y).length=64:=by
 unfold Im.kids;rw[hl];show((List.range 64).map (x.kid y l)).length=64;simp
theorem uV{W:World}{n:Nat}{L:Nat->Nat->Int}(h:aF W b off 256 n (dW L))(hq:q<n):Seg W b (off+q*256) 256 (L q):=λj hj=>by
 exact h q hq j _ (by unfold dW Ks;simp[hj])
theorem x6{y:Im.Pt}(hl:y.l=0):x.kids y=[]:=by unfold Im.kids;rw[hl]
theorem EV(y:Im.Pt)(W:World):(Instr.buildSlice 155 1 #[(0,.agg (lU y).toArray)]).run Tryz.prog W= .ok (.slice (some ⟨W.heap.size,0,none⟩) 1 1) (W.alloc (.cells (lU y).toArray 194)):=uX _ _ _ _ W
def R7P(w:World)(p b off cap:Nat)(x:Im)(ds:Value)(r ci g:Nat)(m:Nat->Bool)(e:Ending)(w':World):Prop:=
 (x.trees m=none/\e= .returned (.bool false)/\dJ (JP p) w w')\/∃Q pt,e= .returned (.bool true)/\Im.iz x m x.ni Q/\wG w p b off cap x ds r ci g m pt Q w'
set_option maxRecDepth 100000 in
set_option maxHeartbeats 16000000 in
theorem xF(hx:x.Ok)(ko:∀t,1<=t->t<=x.ni->(x.ino t).ki)(p b off cap:Nat)(ds:Value)(r ci g:Nat)(m:Nat->Bool)(w:World)(mP:b≠p)(Dr:r≠p)(h:sq p b off cap x ds r ci (.slice (some ⟨g,0,none⟩) (x.ni+1) (x.ni+1)) (.slice none 0 0) w)(ho:az w g 4 1 (x.ni+1) (kr m)):
  Calls Tryz.prog 118 #[.pointer (some ⟨p,0,none⟩)] w λe w'=>R7P w p b off cap x ds r ci g m e w':=by
 have HX:=hid hx;have Pq:=hid ko;have hni:x.ni<=256:=eK hx.may;have fY:=hx.iu;have cX:Hid (wG w p b off cap x ds r ci g m (.slice none 0 0) [] w):=⟨h,ho,ah.nil _ _ _ _ _,dJ.refl _ _,h.k.a.lt,h.k.bl,h.rl,ho.lt⟩;clear h ho hx ko;go_enter Tryz.func118,Tryz.ntmps118;go_wp2_with fail;go_loopw [3,4,5,6,7,8,9,10] (λu _ _ _ _ _ _ _ wr=>∃(k:Nat) (Q:List Im.Pt) (pt:Value),k<=x.ni/\u= .int .i64 ((k:Int)+1)/\Im.iz x m k Q/\wG w p b off cap x ds r ci g m pt Q wr) (λu _ _ _ _ _ _ _ _=>x.ni+1-(intOf u).toNat)
 case atStart=>exact⟨0,[],_,Nat.zero_le _,rfl,Im.iz.zero m,cX.out⟩
 case round=>
  clear cX;obtain⟨k,Q,pt,hk,rfl,hP,st⟩:=hrel;have HP:=hid hP;have ST:=hid st;have c11:wr.cell? ⟨p,11,none⟩=some (.slice (some ⟨r,0,none⟩) (x.ni+1) ci):=st.s.k.a.cell (i:=11) rfl;clear hP st
  by_cases hlt:k<x.ni
  ·have hlt':(k:Int)+1<(x.ni:Int)+1:=by omega
   have k0:(0:Int)<=(k:Int)+1:=by omega
   have cK:wr.cell? ⟨r,(k+1)*16,none⟩=some (.int .u8 (x.ino (k+1)).kind):=ST.out.s.ino (t:=k+1) (by omega) 0 rfl
   by_cases ke:(x.ino (k+1)).kind=0
   ·have q0:((x.ino (k+1)).kind==0)=true:=by simp[ke]
    have HN:=hid (HP.out.free ke);clear ke;generalize (x.ino (k+1)).kind=kd at*;go_wp2_with fail;go_roundw
    case rel=>(try((repeat apply Exists.intro);refine⟨?_,rfl⟩));exact⟨k+1,Q,pt,by omega,by first|rfl|go_num,HN.out,ST.out⟩
    case measure=>simp[intOf];omega
   ·have q0:((x.ino (k+1)).kind==0)=false:=by simp[ke]
    have pn:=hid (HP.out.begin ke);have HKN:=hid ke;have eE:=Pq.out (k+1) (by omega) (by omega);have hsz:=(aK.mA eE).1;have cS:wr.cell? ⟨r,(k+1)*16+3,none⟩=some (.int .i64 (x.ino (k+1)).size):=ST.out.s.ino (t:=k+1) (by omega) 3 rfl;have c12:wr.cell? ⟨p,12,none⟩=some (.slice (some ⟨g,0,none⟩) (x.ni+1) (x.ni+1)):=ST.out.s.k.a.cell (i:=12) rfl;have cM:=fJ ST.out.o (show k+1<x.ni+1 by omega);obtain⟨E,hE⟩:∃E,E=x.en m (k+1):=⟨_,rfl⟩;have hE9:E<=65536:=by rw[hE];unfold Im.en;split<;>omega
    have TZ:Hid (m (k+1)=true->E=65536):=λh=>by rw[hE];unfold Im.en;rw[if_pos h]
    have Zx:m (k+1)=false->((x.ino (k+1)).size+255).tdiv 256=(E:Int):=λh=>by
     rw[hE];unfold Im.en;rw[if_neg (by rw[h];decide),Int.tdiv_eq_ediv_of_nonneg (by omega)];omega
    have Ie:=hid Zx;rw[<-hE] at pn;have Sy:=hid hE;obtain⟨sz,FT⟩:∃sz,sz=(x.ino (k+1)).size:=⟨_,rfl⟩;rw[<-FT] at cS hsz Ie;clear ke eE hE Zx FT;generalize (x.ino (k+1)).kind=kd at cK q0
    go_upto_if 36 with fail
    go_cut [4] from 11 to 151 (λu wx=>u= .int .i64 (E:Int)/\wx=wr)
    case first=>
     cases hm:m (k+1) with
     |true=>
      rw[hm] at cM;have e1:=TZ.out hm;clear hm;go_wp2_with fail
      go_meet
      exact⟨by rw[e1];rfl,rfl⟩
     |false=>
      rw[hm] at cM;have e2:=Ie.out hm;clear hm;go_wp2_with fail
      go_meet
      exact⟨rfl,rfl⟩
    case rest=>
     obtain⟨QY,QX⟩:=hcut;subst QY QX;clear c11 cK cS c12 cM TZ Ie q0;have aV:Hid (A3 w p b off cap x ds r ci g m pt Q (.slice none 0 0) ((x.tH (k+1)).take 0) wc):=⟨ST.out,fq.nil _ _ _ _,λq _ e=>by cases e⟩;clear ST;go_wp2_with fail;go_loopw [5,6] (λv u wr=>∃z:Nat,z<=11/\u= .int .i64 (z:Int)/\A3 w p b off cap x ds r ci g m pt Q v ((x.tH (k+1)).take z) wr) (λ_ u _=>11-(intOf u).toNat)
     case atStart=>exact⟨0,Nat.zero_le _,rfl,aV.out⟩
     case round=>
      clear aV;obtain⟨z,hz,rfl,st⟩:=hrel;obtain⟨td,htd⟩:∃td,td=(x.tH (k+1)).take z:=⟨_,rfl⟩;rw[<-htd] at st;have En:=hid htd;have ST:=hid st;obtain⟨va,vc,hv⟩:=st.t.form;subst hv;clear st htd
      by_cases Dp:z<11
      ·have hz':(z:Int)<11:=by omega
       have z0:(0:Int)<=(z:Int):=by omega
       have hpo:=(Im.ry HX.out (k+1)).p z;have hcells:∀W,wG w p b off cap x ds r ci g m pt Q W->W.cell? ⟨r,(k+1)*16+4+z,none⟩=some (.int .u32 ((x.ino (k+1)).p z)):=λW h=>by
        have:=h.s.ino (t:=k+1) (by omega) (4+z) (by unfold jv;rw[Array.getElem?_toList];exact MK _ Dp);rwa[<-Nat.add_assoc] at this
       have HCP:=hid hcells;have TN:=hid (Mq (x:=x) (t:=k+1) Dp);obtain⟨PB,Zf⟩:∃PB:Nat,(x.ino (k+1)).p z=(PB:Int):=⟨_,(Int.toNat_of_nonneg hpo.1).symm⟩;rw[Zf] at HCP hpo TN;rw[Int.toNat_natCast] at TN;clear hcells Zf;have YS:k+1<=256:=by omega
       go_wp2_with fail;obtain⟨j0,hj,hz0,hz1,hz2⟩:=yf;have htd:=En.out;have HTD:Hid ((x.tH (k+1)).take (z+1)=td++[⟨k+1,PB,Im.fst z,Im.lvl z⟩]/\td.length=z):=⟨by rw[htd,List.take_add_one,TN.out];rfl,by rw[htd,List.length_take,Bj];omega⟩;clear htd TN;have fY:td.length+1<=20:=by have:=HTD.out.2;omega
       apply Vp.qo 19 (λl i v W=>RK 194 #[.int .i64 ((k:Int)+1),.int .i64 (PB:Int),.int .i64 ((Im.fst z:Nat):Int),.int .i64 ((Im.fL (Im.lvl z):Nat):Int)] (λv W=>A3 w p b off cap x ds r ci g m pt Q v (td++[⟨k+1,PB,Im.fst z,Im.lvl z⟩]) W) l i v W) (λl W=>S7a (wG w p b off cap x ds r ci g m pt Q) (A3 w p b off cap x ds r ci g m pt Q (.slice va td.length vc) td) l W) (wG w p b off cap x ds r ci g m pt Q)
       case hm=>kernel_rfl
       case hd=>kernel_rfl
       case hpre=>kernel_rfl
       case hB=>kernel_rfl
       case hVl=>exactλl l' he i v W h=>h.up (λg0 _ e=>⟨(he 20 (by decide) (by decide)).trans e,λh=>h⟩) (λv _ h=>h)
       case hS=>exactλl l' W he h=>⟨h.c,λe=>h.b ((he 20 (by decide) (by decide)).trans e),λe=>by rw[<-he 20 (by decide) (by decide)];exact h.o ((he 21 (by decide) (by decide)).trans e)⟩
       case hSC=>exactλl W h=>h.c
       case hVb=>exactλl i v W W' h hb=>h.up (λg0 _ e=>⟨e,λh=>h.below hb h.lt⟩) (λv _ h=>h.below hb)
       case hSb=>exactλl W W' h hb _=>⟨h.c.below hb,λe=>(h.b e).below hb,h.o⟩
       case hlate=>
        intro l hc i o j d hi ho hj hd hr hl;obtain⟨rfl,rfl⟩:=Vp.I9 (i0:=0) (j0:=21) (by kernel_rfl) hi ho hj hd hr;cases e:l 21 with
        |false=>rfl
        |true=>
         have e20:=aq (hc 21 _ rfl e) 20 (by kernel_rfl);have e0:=aq (hc 20 _ rfl e20) 0 (by kernel_rfl);rw[hl] at e0;cases e0
       case h0=>exact⟨ST.out.s.below ⟨rfl,rfl,rfl,Nat.le_refl _,λ_ _=>rfl⟩,λ_=>ST.out.below ⟨rfl,rfl,rfl,Nat.le_refl _,λ_ _=>rfl⟩,λe=>by cases e⟩
       case hwalk=>
        simp only[List.take];intro R hR hne;have c11:∀y':aT (λW=>wG w p b off cap x ds r ci g m pt Q W/\R W),y'.W.cell? ⟨p,11,none⟩=some (.slice (some ⟨r,0,none⟩) (x.ni+1) ci):=λy'=>y'.h.1.s.k.a.cell (i:=11) rfl
        have cP:∀y':aT (λW=>wG w p b off cap x ds r ci g m pt Q W/\R W),y'.W.cell? ⟨r,(k+1)*16+4+z,none⟩=some (.int .u32 (PB:Int)):=λy'=>HCP.out _ y'.h.1
        iterate 14 go_big_quiet_step (fail)
        go_big_quiet_want
        go_big_quiet_op
        refine⟨_,λs=>aG s (λW hW=>(vt z Dp W).mono λe w' h=>⟨h.1,hW.1.below h.2,hR _ _ hW.2 h.2⟩),?_⟩
        go_big_quiet_on
        go_big_quiet_step (fail)
        go_big_quiet_want
        go_big_quiet_op
        refine⟨_,λs=>aG s (λW hW=>(jO z Dp W).mono λe w' h=>⟨h.1,hW.1.below h.2,hR _ _ hW.2 h.2⟩),?_⟩
        go_big_quiet_on
        go_big_quiet_want
        go_big_quiet_op
        refine⟨_,λs=>aG s (λW hW=>(oR (Im.lvl z) (vG Dp) W).mono λe w' h=>⟨h.1,hW.1.below h.2,hR _ _ hW.2 h.2⟩),?_⟩
        go_big_quiet_on
        go_big_quiet_step (fail)
        exact wpQuiet_nil rfl
       case hst=>
        simp only[List.drop];refine⟨?_,?_,?_,trivial⟩
        ·intro l a W hl hu h
         have e1:a.tmps.getD 69 undef= .agg #[.int .i64 ((k:Int)+1),.int .i64 (PB:Int),.int .i64 ((Im.fst z:Nat):Int),.int .i64 ((Im.fL (Im.lvl z):Nat):Int)]:=(h.vals 18 69 (aq hu 18) rfl).pre (by decide) rfl;have hb:Below W.heap.size W (W.alloc (.cells #[.int .i64 ((k:Int)+1),.int .i64 (PB:Int),.int .i64 ((Im.fst z:Nat):Int),.int .i64 ((Im.fL (Im.lvl z):Nat):Int)] 194)):=(Below.refl _ _).alloc (Nat.le_refl _) _;exact Vm.step h (by kernel_rfl) rfl rfl rfl hl (eM (Vp.KU 155 1 (.tmp 69) rfl e1 (uX _ _ _ _ W)) ⟨_,rfl,λn d _ _ hv=>hv.up λ_ hv=>hv.up (λg0 _ e=>⟨e,λh=>h.below hb h.lt⟩) (λv _ h=>h.below hb),Vp.W.mk (by decide) ⟨W.heap.size,rfl,λ_=>At.new W _ _⟩,⟨h.st.c.below hb,λe=>(h.st.b e).below hb,h.st.o⟩⟩)
        ·intro l a W hl hu h
         have e1:a.tmps.getD 51 undef= .slice va td.length vc:=(h.vals 0 51 (aq hu 0) rfl).pre (by decide) rfl;obtain⟨g0,e2,hA⟩:∃g0,a.tmps.getD 70 undef= .slice (some ⟨g0,0,none⟩) 1 1/\(l 20=false->At W g0 194 #[.int .i64 ((k:Int)+1),.int .i64 (PB:Int),.int .i64 ((Im.fst z:Nat):Int),.int .i64 ((Im.fL (Im.lvl z):Nat):Int)]):=(h.vals 19 70 (aq hu 19) rfl).post (by decide);have hT:=h.st.b hl;obtain⟨v',W',hr,hq,hg,hn⟩:=kH (P:=Tryz.prog) W w.heap.size 155 155 194 j0 (.agg #[.int .i64 0,.int .i64 0,.int .i64 0,.int .i64 0]) 4 32 Tryz.underlying155 hj hz0 hz1 hz2 rfl (by decide) (.slice va td.length vc) td.length (td.flatMap lU) hT.t ⟨g0,0,none⟩ (lU ⟨k+1,PB,Im.fst z,Im.lvl z⟩) rfl
          (λj u hj=>by rw[bh,Nat.zero_add];exact(hA hl).cell (i:=j) (show(lU ⟨k+1,PB,Im.fst z,Im.lvl z⟩).toArray[j]? =some u from by rw[List.getElem?_toArray];exact hj)) (vu _) (by unfold maxLen;omega) (by omega) hT.s.gr.size
         have hN:=hT.app (y:=⟨k+1,PB,Im.fst z,Im.lvl z⟩) hq hg hn;exact Vm.step h (by kernel_rfl) rfl rfl rfl hl (eM (Vp.KW 155 (.tmp 51) (.tmp 70) rfl e1 e2 hr) ⟨_,rfl,λn d hi _ hv=>hv.up λ_ hv=>hv.up (λg0 _ e=>by cases e) (λv e7 _=>by
          rcases e7 with e7|e7
          ·subst e7;rw[hl] at hi;cases hi
          ·subst e7;have:=h.st.o hi;rw[hl] at this;cases this),Vp.W.mk (by decide) hN,⟨hN.s,(λe=>by cases e),λ_=>rfl⟩⟩)
        ·intro l a W hl hu h
         have u20:=aq hu 20 (by kernel_rfl);have e1:A3 w p b off cap x ds r ci g m pt Q (a.tmps.getD 71 undef) (td++[⟨k+1,PB,Im.fst z,Im.lvl z⟩]) W:=(h.vals 20 71 u20 rfl).post (by decide);exact Vm.bB h (by kernel_rfl) rfl rfl rfl hl _ (Vl.qS (.tmp 71) rfl rfl) (λ_ _ hv=>hv.up λ_ hv=>hv.up (λg0 _ e=>⟨e,λh=>h⟩) (λv _ h=>h)) (Vp.W.mk (by decide) e1) (λs=>⟨s.c,s.b,λ_=>u20⟩)
       intro a' w5 h hall;have bO:=hall [70,71,5] (by kernel_rfl);clear hall;have e5:A3 w p b off cap x ds r ci g m pt Q (a'.tmps.getD 5 undef) (td++[⟨k+1,PB,Im.fst z,Im.lvl z⟩]) w5:=(h.vals 21 5 rfl rfl).post (by decide);rw[<-HTD.out.1] at e5;rw[List.foldl_cons,List.foldl_cons,List.foldl_cons,List.foldl_nil] at bO;obtain⟨v5,h5⟩:∃v,a'.tmps.getD 5 undef=v:=⟨_,rfl⟩;obtain⟨v70,ZH⟩:∃v,a'.tmps.getD 70 undef=v:=⟨_,rfl⟩;obtain⟨v71,ZG⟩:∃v,a'.tmps.getD 71 undef=v:=⟨_,rfl⟩;rw[h5,ZH,ZG] at bO;clear ZH ZG;simp only[Act.put,List.setIfInBounds_toArray,List.set_cons_succ,List.set_cons_zero] at bO;rw[h5] at e5;have ec:=hid e5;subst bO;clear h e5 ST h5;go_wp2_with fail;go_roundw
       case rel=>(try((repeat apply Exists.intro);refine⟨?_,rfl⟩));exact⟨z+1,by omega,by go_num,ec.out⟩
       case measure=>simp[intOf];omega
      ·obtain rfl:z=11:=by omega
       have HT:Hid (td=x.tH (k+1)):=by show _=_;rw[En.out,List.take_of_length_le (by rw[Bj];exact Nat.le_refl _)]
       go_wp2_with fail;clear Dp hz;go_loopw [5,7,8,9,10] (λv _ _ _ _ wr=>∃(td Q':List Im.Pt) (CW:Value),Im.oL x E (k+1) (x.yH (k+1)) (x.fP m (k+1) (Im.bF Q)) td Q'/\(∀y∈td,y.l<4)/\A3 w p b off cap x ds r ci g m CW Q' v td wr) (λv _ _ _ _ wr=>PE wr v)
       case atStart=>exact⟨td,Q,pt,by rw[HT.out];exact pn.out,by rw[HT.out];exact Mp,ST.out⟩
       case round=>
        clear ST HT En pn;obtain⟨td,Q',CW,hI,hl4,st⟩:=hrel;have HI:=hid hI;have HL:=hid hl4;clear hI hl4;cases td with
        |nil=>
         obtain⟨a2,c2,hv⟩:=st.t.form;subst hv;have HN:=hid (HP.out.done (by rw[<-Sy.out];exact HI.out));have ST:=hid st;clear st;go_wp2_with fail;go_roundw
         case rel=>(try((repeat apply Exists.intro);refine⟨?_,rfl⟩));exact⟨k+1,Q',CW,by omega,by first|rfl|go_num,HN.out,ST.out.s⟩
         case measure=>simp[intOf];omega
        |cons y td=>
         have hwt:=uN st.t HL.out;have ht:fq wr w.heap.size 194 4 _ (td.length+1) (lU y++td.flatMap lU):=st.t;obtain⟨g2,o2,c2,hv,hcap,Hk⟩:=ht.front;subst hv;obtain⟨o3,hsl,YA⟩:=fq.pop ht rfl;have hsr:=EU g2 o2 o3 td.length c2 hsl;have hgl:g2<wr.heap.size:=by
          obtain⟨_,cur,hc⟩:=ht.own rfl;exact(Array.getElem?_eq_some_iff.1 hc).1
         have hpl:∀q,CW.ownBlock=some q->q<wr.heap.size:=λq hq=>(World.ownsRow.lt st.s.q q hq).2
         have ST:Hid (A3 w p b off cap x ds r ci g m CW Q' (.slice (some ⟨g2,o3,none⟩) td.length (c2-1)) td wr):=⟨st.s,YA,λq hq e=>st.ne q hq e⟩;have HWT:=hid hwt;have YO:td.length+1<=200000:=by
          have h1:=HI.out.len;have h2:=HI.out.Mx;rw[List.length_cons] at h1;omega
         have hzp:=Ih;have YE:=At.new wr 194 #[.int .i64 0,.int .i64 0,.int .i64 0,.int .i64 0];have Sv:=hid hgl;have LS:=hid hpl;clear st ht hsl YA hwt hgl hpl;go_wp2_with (first|(refine aB rfl 194 (.tmp 76) rfl g2 o2 (lU y) _ rfl Hk Tryz.underlying194 rfl rA ?_)|(refine ax rfl 194 (.tmp 7) (.tmp 77) rfl wr.heap.size (lU y).toArray #[.int .i64 0,.int .i64 0,.int .i64 0,.int .i64 0] rfl rfl YE rA rfl (N3 y) ?_))
         intro w4 Lr kv;have hb4:Below wr.heap.size wr w4:=((Below.refl _ _).alloc (Nat.le_refl _) _).trans (kv.below (Nat.le_refl _));have eI:Hid (yY w p b off cap x ds r ci g m CW Q' (.slice (some ⟨g2,o3,none⟩) td.length (c2-1)) td wr.heap.size y w4):=⟨ST.out.below hb4,Lr,λe=>by have:=LS.out _ e;omega,λe=>by injection e with e;have:=Sv.out;replace e:g2=wr.heap.size:=e;omega,ST.out.s.gr.size⟩;obtain⟨X,hX⟩:∃X,X=wr.heap.size:=⟨_,rfl⟩;rw[<-hX] at eI ⊢;obtain⟨M0,Wu⟩:∃M0,M0=PE wr (.slice (some ⟨g2,o2,none⟩) (td.length+1) c2):=⟨_,rfl⟩;have LV:Hid (M0=Io y.l+Eu td):=by show _=_;rw[Wu];exact HWT.out
         have Ps:=hid Wu;have cB:w4.cell? ⟨X,1,none⟩=some (.int .i64 (y.b:Int)):=eI.out.x.cell (i:=1) rfl;have cF:w4.cell? ⟨X,2,none⟩=some (.int .i64 (y.f:Int)):=eI.out.x.cell (i:=2) rfl;clear ST Lr kv hb4 hX Hk hzp YE Sv LS Wu HWT
         by_cases wM:y.b=0
         ·have q1:((y.b:Int)==0)=true:=by simp[wM]
          have zw:=hid (HI.out.skip wM);have je:Hid (∀z∈td,z.l<4):=λz hz=>HL.out z (List.mem_cons_of_mem _ hz)
          have Ol:Hid (PE w4 (.slice (some ⟨g2,o3,none⟩) td.length (c2-1))<M0):=by
           show _<_;rw[uN eI.out.t.t je.out,LV.out];have:0<Io y.l:=by cases y.l<;>(unfold Io;omega)
           omega
          clear wM;go_wp2_with fail;go_roundw
          case rel=>(try((repeat apply Exists.intro);refine⟨?_,rfl⟩));exact⟨td,Q',CW,zw.out,je.out,eI.out.t⟩
          case measure=>first|exact Ol.out|(have:=Ol.out;rw[Ps.out] at this;exact this)
         ·have q1:((y.b:Int)==0)=false:=by simp;omega
          have HYB:=hid wM;have ct:Hid (¬(y.f<min E 65536/\x.data y.b=true/\Im.bF Q' y.b=0)->∀W',dJ (JP p) w W'->R7P w p b off cap x ds r ci g m (.returned (.bool false)) W'):=λh W' hg=> .inl ⟨HP.out.none (by omega) (HI.out.bad wM h),rfl,hg⟩
          by_cases UJ:y.f<E
          ·have d1:decide ((E:Int)<=(y.f:Int))=false:=decide_eq_false (by omega)
           have d1':decide (E<=y.f)=false:=decide_eq_false (by omega);have HYF:=hid UJ;clear wM UJ;go_wp2_with fail;refine(qQ HX.out p b off cap ds _ _ _ y.b w4 eI.out.t.s.s.k).mono ?_;rintro e w5 ⟨rfl,sB⟩;have ec:=hid (eI.out.below sB);clear cB cF;have cB:w5.cell? ⟨X,1,none⟩=some (.int .i64 (y.b:Int)):=ec.out.x.cell (i:=1) rfl;clear eI sB q1;cases OW:x.data y.b with
           |false=>
            have HF:=hid (ct.out (λh=>by rw[OW] at h;cases h.2.1));clear OW;go_wp2_with fail;go_ret;exact HF.out _ ec.out.t.s.gr
           |true=>
            have HDT:=hid OW;clear OW;go_wp2_with fail;refine(kJ p b off cap ds _ _ _ Q' (by have:=HI.out.Mx;omega) y.b w5 ec.out.t.s.s.k ec.out.t.s.ptV).mono ?_;rintro e w6 ⟨rfl,kx⟩;have iW:=hid (ec.out.below kx);clear ec kx cB
            by_cases QC:Im.bF Q' y.b=0
            ·have hd2:decide ((0:Int)<((Im.bF Q' y.b:Nat):Int))=false:=decide_eq_false (by omega)
             have hd3:decide (0<Im.bF Q' y.b)=false:=decide_eq_false (by omega);have HG:=hid (HI.out.WK (by omega) HYB.out ⟨by have:=HYF.out;omega,HDT.out,QC⟩);clear QC ct;go_wp2_with fail;obtain⟨j0,hj,hz0,hz1,hz2⟩:=yf;have hq9:Q'.length+1<=4000:=by have:=HI.out.Mx;omega
             show(Code.region _ (Vp.Ag 101 7 157 6 194 155 152 "ref.go:119").toArray true).wp _ _ _ _;refine Vp.Be 101 7 157 6 194 155 152 "ref.go:119" p 13 X CW (lU y).toArray (yY w p b off cap x ds r ci g m CW Q' (.slice (some ⟨g2,o3,none⟩) td.length (c2-1)) td X y) (N8 w p b off cap x ds r ci g m CW Q' (.slice (some ⟨g2,o3,none⟩) td.length (c2-1)) td X y) (λW=>∃nB,yY w p b off cap x ds r ci g m nB (Q'++[y]) (.slice (some ⟨g2,o3,none⟩) td.length (c2-1)) td X y W)
              (by kernel_rfl) (by kernel_rfl) (by kernel_rfl) (by kernel_rfl) (by kernel_rfl) (by rfl) (by rfl) (λW=>by kernel_rfl) (by kernel_rfl) (λW=>by kernel_rfl) _ Tryz.underlying194 rfl rA (EV y) (λW W' h hb=>h.below hb) (λv W W' h hb=>h.below hb) (λW W' h hb=> ?f1) (iW.out.below ⟨rfl,rfl,rfl,Nat.le_refl _,λ_ _=>rfl⟩) (λW h=>h.t.s.s.k.a.cell (i:=13) rfl) ?one (λW h=> ?row) (λW g0 h hA=> ?app) (λv' W h=> ?sto) ?fin
             case f1=>obtain⟨v',h⟩:=h;exact⟨v',h.below hb⟩
             case one=>obtain⟨a,c,e⟩:=ah.form iW.out.t.s.q;rw[e];rfl
             case row=>exactλj u hj=>by rw[Nat.zero_add];exact h.x.cell (by simpa using hj)
             case app=>
              obtain⟨v',W',hr,ho,hg,_,hn⟩:=run_append_own_at (P:=Tryz.prog) W w.heap.size 155 155 194 j0 (.agg #[.int .i64 0,.int .i64 0,.int .i64 0,.int .i64 0]) 4 32 Tryz.underlying155 hj hz0 hz1 hz2 rfl (by decide) CW Q'.length (Cs (zl Q') Q'.length) h.t.s.q ⟨g0,0,none⟩ 1 1 (lU y) rfl
               (λj u hj=>by rw[bh,Nat.zero_add];exact hA.cell (by simpa using hj)) (vu y) (by unfold maxLen;omega) (by omega) h.t.s.gr.size
              exact⟨v',W',hr,h.Rl hg ho hn⟩
             case sto=>exact⟨⟨_,h.s.k.a.cell (i:=13) rfl⟩,ag h.s.k.a 13,by obtain⟨a,c,e⟩:=ah.form h.q;rw[e];rfl,v',h.store mP Dr⟩
             case fin=>
              intro u0 u1 u2 u3 u4 u5 u6 u7 u8 u9 w7 hF;obtain⟨nB,h7⟩:=hF;have Ek:Hid (yY w p b off cap x ds r ci g m nB (Q'++[y]) (.slice (some ⟨g2,o3,none⟩) td.length (c2-1)) (td++(x.kids y).take 0) X y w7):=by rw[List.take_zero,List.append_nil];exact h7
              clear iW h7 hq9;simp only[Act.put,List.setIfInBounds_toArray,List.set_cons_succ,List.set_cons_zero];go_wp2_with fail;have hl4:=HL.out y (List.mem_cons_self ..);go_loopw [5,8,9,10] (λv u _ _ wr=>∃n:Nat,n<=(x.kids y).length/\u= .int .i64 (n:Int)/\yY w p b off cap x ds r ci g m nB (Q'++[y]) v (td++(x.kids y).take n) X y wr) (λ_ u _ _ _=>64-(intOf u).toNat)
              case atStart=>exact⟨0,Nat.zero_le _,rfl,Ek.out⟩
              case round=>
               clear Ek;obtain⟨n,hn,rfl,st⟩:=hrel;have Nl:=Im.x7 (x:=x) y;have ST:=hid st;obtain⟨a5,c5,hv5⟩:=st.t.t.form;subst hv5;obtain⟨tB,M3⟩:∃t2,t2=td++(x.kids y).take n:=⟨_,rfl⟩;rw[<-M3] at ST st ⊢;have Eo:=hid M3;clear M3;have cS:wr.cell? ⟨X,3,none⟩=some (.int .i64 ((Im.fL y.l:Nat):Int)):=st.x.cell (i:=3) rfl;clear st
               by_cases hnl:n<(x.kids y).length
               ·obtain⟨l,hl⟩:∃l,y.l=l+1:=by
                 cases MW:y.l with
                 |zero=>rw[x6 MW] at hnl;cases hnl
                 |succ l=>exact⟨l,rfl⟩
                have Vj:n<64:=by omega
                have YF:(n:Int)<64:=by omega
                have HKA:=hid (Jc (x:=x) hl Vj);have hS1:Im.fL y.l=64*Im.fL l:=by rw[hl];unfold Im.fL;rw[Nat.pow_succ,Nat.mul_comm]
                have JH:Im.fL l<=4096/\1<=Im.fL l:=by
                 have:l=0\/l=1\/l=2:=by omega
                 rcases this with rfl|rfl|rfl<;>decide
                obtain⟨S0,yw⟩:∃S0,S0=Im.fL l:=⟨_,rfl⟩;obtain⟨S1,JI⟩:∃S1,S1=Im.fL y.l:=⟨_,rfl⟩;rw[<-JI,<-yw] at hS1;rw[<-yw] at JH;rw[<-JI] at cS;have hs1:decide ((1:Int)<(S1:Int))=true:=decide_eq_true (by omega);have acw:decide (1<S1)=true:=decide_eq_true (by omega);have hmul:n*S0<=64*4096:=Nat.mul_le_mul (by omega) JH.1;obtain⟨N0,Ra⟩:∃N0,N0=n*S0:=⟨_,rfl⟩;have BH:(n:Int)*(S1:Int)=64*(N0:Int):=by
                 rw[hS1,Ra,Int.natCast_mul,Int.natCast_mul];rw[Int.mul_left_comm];rfl
                have hq1:(64*(N0:Int)).tdiv 64=(N0:Int):=by rw[Int.tdiv_eq_ediv_of_nonneg (by omega)];omega
                have hq2:(S1:Int).tdiv 64=(S0:Int):=by rw[Int.tdiv_eq_ediv_of_nonneg (by omega)];omega
                rw[<-Ra] at hmul;have RY:Hid (N0=n*Im.fL l/\S0=Im.fL l):=⟨by rw[Ra,yw],yw⟩;have acg:y.f<65536:=by have:=HYF.out;omega
                have hyn:y.b<x.n:=Im.BS HDT.out;have ace:(y.b:Int)<(x.n:Int):=by omega
                have lq:=hid hl;have HNL:=hid hnl;have Pn:=hid JI;have ae2:=hid hS1;clear hnl Ra yw JI hl hS1;go_wp2_with fail;have hsl:=dK b (off+y.b*256);refine ai (yY w p b off cap x ds r ci g m nB (Q'++[y]) (.slice a5 tB.length c5) tB X y) (by kernel_rfl) (by kernel_rfl) (ST.out.below ⟨rfl,rfl,rfl,Nat.le_refl _,λ_ _=>rfl⟩) ?_;clear ST cS;intro hne;have c0:∀y':aT (yY w p b off cap x ds r ci g m nB (Q'++[y]) (.slice a5 tB.length c5) tB X y),y'.W.cell? ⟨p,0,none⟩=some (.slice (some ⟨b,off,none⟩) x.n cap):=λy'=>y'.h.t.s.s.k.a.cell (i:=0) rfl
                have cB:∀y':aT (yY w p b off cap x ds r ci g m nB (Q'++[y]) (.slice a5 tB.length c5) tB X y),y'.W.cell? ⟨X,1,none⟩=some (.int .i64 (y.b:Int)):=λy'=>y'.h.x.cell (i:=1) rfl
                iterate 10 go_big_quiet_step (fail)
                go_big_quiet_want
                go_big_quiet_op
                refine⟨_,λs=>aG s (λW hW=>(fh b (off+y.b*256) 256 256 (4*(n:Int)) (x.L y.b) W (by decide) (by omega) (by omega) (uV hW.t.s.s.k.i hyn) (HX.out.jg _)).mono λe w' h=>⟨h.1,by obtain⟨mm,hm⟩:=h.2;rw[hm];exact hW.below (ie (Below.refl _ _) mm)⟩),?_⟩
                go_big_quiet_on
                repeat go_big_quiet_step (fail)
                refine wpQuiet_nil ?_;intro w8 h8;have tj:=hid h8.out;have cF:w8.cell? ⟨X,2,none⟩=some (.int .i64 (y.f:Int)):=h8.out.x.cell (i:=2) rfl;have cS:w8.cell? ⟨X,3,none⟩=some (.int .i64 (S1:Int)):=by rw[Pn.out];exact h8.out.x.cell (i:=3) rfl
                have HW:=Im.mW HX.out y.b n;have Zw:(4*(n:Int)).toNat=4*n:=by omega
                rw[Zw,<-HW.1];obtain⟨K,hK⟩:∃K,K=x.sJ y.b n:=⟨_,rfl⟩;rw[<-hK] at HW ⊢;have NK:K<4294967296:=by have:=HW.2;omega
                have Yq:y.i=k+1:=HI.out.own y (List.mem_cons_self ..);have Ib:Hid ([.int .i64 ((k:Int)+1),.int .i64 (K:Int),.int .i64 ((y.f:Int)+(N0:Int)),.int .i64 (S0:Int)]=lU (x.kid y l n)):=by
                 show _=[Value.int .i64 ((y.i:Nat):Int),.int .i64 ((x.sJ y.b n:Nat):Int),.int .i64 ((y.f+n*Im.fL l:Nat):Int),.int .i64 ((Im.fL l:Nat):Int)];rw[Yq,<-hK,<-RY.out.1,<-RY.out.2];rfl
                have vX:Below w8.heap.size w8 (w8.alloc (.cells #[.int .i64 ((k:Int)+1),.int .i64 (K:Int),.int .i64 ((y.f:Int)+(N0:Int)),.int .i64 (S0:Int)] 194)):=(Below.refl _ _).alloc (Nat.le_refl _) _;have nR:=hid (tj.out.below vX);have hown:=nR.out.t.t;have hnews:∀i u,([.int .i64 ((k:Int)+1),.int .i64 (K:Int),.int .i64 ((y.f:Int)+(N0:Int)),.int .i64 (S0:Int)]:List Value)[i]? =some u->(w8.alloc (.cells #[.int .i64 ((k:Int)+1),.int .i64 (K:Int),.int .i64 ((y.f:Int)+(N0:Int)),.int .i64 (S0:Int)] 194)).cell? ((⟨w8.heap.size,0,none⟩:Addr).add i)=some u:=ez w8 _ _;have h1c:∀u∈([.int .i64 ((k:Int)+1),.int .i64 (K:Int),.int .i64 ((y.f:Int)+(N0:Int)),.int .i64 (S0:Int)]:List Value),u.oneCell'=true:=by rw[Ib.out];exact vu _
                have hbase:=nR.out.t.s.gr.size;have htl:tB.length+1<=400000:=by
                 rw[Eo.out,List.length_append,List.length_take];omega
                have YP:(0:Int)<=(tB.length:Int):=by omega
                clear h8 hne c0 cB hsl tj vX hK HW Zw Yq;go_wp2_with (first|(refine dt rfl 155 1 0 (.tmp 149) rfl (.agg #[.int .i64 ((k:Int)+1),.int .i64 (K:Int),.int .i64 ((y.f:Int)+(N0:Int)),.int .i64 (S0:Int)]) rfl _ _ (uX _ _ _ _ _) ?_)|(refine mZ rfl (.tmp 134) (.tmp 150) 155 rfl w.heap.size 194 j0 (.agg #[.int .i64 0,.int .i64 0,.int .i64 0,.int .i64 0]) 4 32 Tryz.underlying155 hj hz0 hz1 hz2 rfl (by decide) (.slice a5 tB.length c5) tB.length (tB.flatMap lU) rfl hown ⟨w8.heap.size,0,none⟩ [.int .i64 ((k:Int)+1),.int .i64 (K:Int),.int .i64 ((y.f:Int)+(N0:Int)),.int .i64 (S0:Int)] rfl rfl hnews h1c (by unfold maxLen;omega) (by omega) hbase ?_))
                intro v' po Nc QU QF;rw[Ib.out] at Nc;have Hn:=nR.out.app (z:=x.kid y l n) Nc QU (by rw[World.size_alloc];exact QF);have Y9:tB++[x.kid y l n]=td++(x.kids y).take (n+1):=by rw[Eo.out,List.take_add_one,HKA.out,List.append_assoc];rfl
                rw[Y9] at Hn;have tl:=hid Hn;obtain⟨a6,c6,MZ⟩:=Hn.t.t.form;clear Y9 Hn Nc QU QF nR hown hnews h1c hbase cF cS;go_wp2_with fail;go_roundw
                case rel=>(try((repeat apply Exists.intro);refine⟨?_,rfl⟩));exact⟨n+1,HNL.out,by first|rfl|go_num,tl.out⟩
                case measure=>simp[intOf];omega
               ·have QE:n=(x.kids y).length:=by omega
                have Od:Hid (tB=td++x.kids y):=by show _=_;rw[Eo.out,QE,List.take_length]
                have je:Hid (∀z∈tB,z.l<4):=by
                 show∀z∈tB,z.l<4;rw[Od.out];intro z hz;rcases List.mem_append.1 hz with hz|hz
                 ·exact HL.out z (List.mem_cons_of_mem _ hz)
                 ·exact Jb hl4 z hz
                have Ol:Hid (PE wr (.slice a5 tB.length c5)<M0):=by
                 show _<_;rw[uN ST.out.t.t je.out,LV.out,Od.out,Bc];have:=Et (x:=x) y;omega
                have HG2:=HG.out;rw[<-Od.out] at HG2;have On:=hid HG2;clear HG2;cases MW:y.l with
                |zero=>
                 have hn0:n=0:=by rw[QE,x6 MW];rfl
                 subst hn0;rw[MW] at cS;have cS1:wr.cell? ⟨X,3,none⟩=some (.int .i64 1):=cS;clear cS QE MW hl4;go_wp2_with fail;go_roundw
                 case rel=>(try((repeat apply Exists.intro);refine⟨?_,rfl⟩));exact⟨tB,Q'++[y],nB,On.out,je.out,ST.out.t⟩
                 case measure=>first|exact Ol.out|(have:=Ol.out;rw[Ps.out] at this;exact this)
                |succ l=>
                 have hn0:n=64:=by rw[QE,Ja MW]
                 subst hn0;clear cS QE MW hl4;go_wp2_with fail;go_roundw
                 case rel=>(try((repeat apply Exists.intro);refine⟨?_,rfl⟩));exact⟨tB,Q'++[y],nB,On.out,je.out,ST.out.t⟩
                 case measure=>first|exact Ol.out|(have:=Ol.out;rw[Ps.out] at this;exact this)
            ·have hd2:decide ((0:Int)<((Im.bF Q' y.b:Nat):Int))=true:=decide_eq_true (by omega)
             have hd3:decide (0<Im.bF Q' y.b)=true:=decide_eq_true (by omega);have HF:=hid (ct.out (λh=>QC h.2.2));clear QC;go_wp2_with fail;go_ret;exact HF.out _ iW.out.t.s.gr
          ·have d1:decide ((E:Int)<=(y.f:Int))=true:=decide_eq_true (by omega)
           have d1':decide (E<=y.f)=true:=decide_eq_true (by omega);have HF:=hid (ct.out (λh=>by have:=h.1;omega));clear UJ wM;go_wp2_with fail;go_ret;exact HF.out _ eI.out.t.s.gr
  ·obtain rfl:k=x.ni:=by omega
   go_wp2_with fail;go_ret;exact .inr ⟨Q,pt,rfl,HP.out,ST.out⟩
end Go.Proofs.YtphamecphmbipaaGreatDoor
