/- Texts of this claim, merged. -/
import Derived.Test.YtphamecphmbipaaGreatDoorZ32
import Derived.Deep.CutRange
set_option linter.unusedVariables false
namespace Go.Proofs.YtphamecphmbipaaGreatDoor
open Go.RowKit
variable {w W':World} {p off cap r ci g q t l:Nat} {x:Im} {ds pt v v':Value} {m:Nat->Bool}
structure Bi(w:World)(p b off cap:Nat)(x:Im)(ds:Value)(r ci g:Nat)(m:Nat->Bool)(pt:Value)(Q:List Im.Pt)(v:Value)(td:List Im.Pt)(W:World):Prop where
 s:wY w p b off cap x ds r ci g m pt Q W
 t:fE W w.heap.size 194 4 v td.length (td.flatMap mh)
 ne:∀q,pt.ownBlock=some q->v.ownBlock≠some q
theorem Bi.below{b:Nat}{Q:List Im.Pt}{td:List Im.Pt}{W:World}(h:Bi w p b off cap x ds r ci g m pt Q v td W)(hb:Below W.heap.size W W'):Bi w p b off cap x ds r ci g m pt Q v td W':=⟨h.s.below hb,h.t.below hb,h.ne⟩
theorem Bi.app{b:Nat}{Q:List Im.Pt}{td:List Im.Pt}{W:World}(h:Bi w p b off cap x ds r ci g m pt Q v td W){y:Im.Pt}(hq:fE W' w.heap.size 194 4 v' (td.length+1) (td.flatMap mh++mh y))(hg:W.grownBy W' v.ownBlock)(hn:∀q,v'.ownBlock=some q->v.ownBlock=some q\/W.heap.size<=q):Bi w p b off cap x ds r ci g m pt Q v' (td++[y]) W':=by
 refine⟨h.s.grown hg (λq e=>(h.t.own e).1) h.ne,?_,λq hq e=> ?_⟩
 ·rw[List.length_append,List.flatMap_append]
  show fE W' _ _ 4 v' (td.length+1) (td.flatMap mh++(mh y++[]));rw[List.append_nil];exact hq
 rcases hn q e with e2|e2
 ·exact h.ne q hq e2
 have:=(World.ownsRow.lt h.s.q q hq).2;omega
theorem Ni(y:aS)(hq:q<11):y.arr[4+q]? =some (.int .u32 (y.p q)):=by
 match q,hq with
 |0,_=>rfl
 |1,_=>rfl
 |2,_=>rfl
 |3,_=>rfl
 |4,_=>rfl
 |5,_=>rfl
 |6,_=>rfl
 |7,_=>rfl
 |8,_=>rfl
 |9,_=>rfl
 |10,_=>rfl
 |q+11,h=>omega
theorem MU{z:Nat}(hz:z<11):(x.tV t)[z]? =some ⟨t,((x.ino t).p z).toNat,Im.fst z,Im.lvl z⟩:=by
 unfold Im.tV;rw[List.getElem?_map,List.getElem?_range hz];rfl
theorem Bx:(x.tV t).length=11:=by unfold Im.tV;simp
def Si(T:Nat)(cells:Array Value)(N:Value->World->Prop)(l:Nat->Bool)(i:Nat)(v:Value)(W:World):Prop:=
 if i=19 then∃g0,v= .slice (some ⟨g0,0,none⟩) 1 1/\(l 20=false->At W g0 T cells) else if i=20\/i=21 then N v W else True
theorem Si.up{T:Nat}{cells:Array Value}{N:Value->World->Prop}{l l':Nat->Bool}{i:Nat}{W:World}(h:Si T cells N l i v W)
  (h6:∀g0,i=19->l' 20=false->l 20=false/\(At W g0 T cells->At W' g0 T cells)) (h7:∀v,(i=20\/i=21)->N v W->N v W'):Si T cells N l' i v W':=by
 unfold Si at h ⊢;split<;>rename_i c1
 ·rw[if_pos c1] at h
  obtain⟨g0,h1,h2⟩:=h;exact⟨g0,h1,λe=>(h6 g0 c1 e).2 (h2 (h6 g0 c1 e).1)⟩
 rw[if_neg c1] at h;split<;>rename_i c2
 ·rw[if_pos c2] at h
  exact h7 v c2 h
 trivial
structure S7a(C B:World->Prop)(l:Nat->Bool)(W:World):Prop where
 c:C W
 b:l 20=false->B W
 o:l 21=true->l 20=true
theorem MT:∀y∈x.tV t,y.l<4:=by
 intro y hy;obtain⟨q,hq,rfl⟩:=List.mem_map.1 hy;exact vT (List.mem_range.1 hq)
theorem JD{y:Im.Pt}(h:y.l<4):∀z∈x.kids y,z.l<4:=by
 intro z hz;unfold Im.kids at hz;split at hz
 ·cases hz
 rename_i l e;obtain⟨k,_,rfl⟩:=List.mem_map.1 hz;show l<4;omega
theorem IK(W:World):(zeroValue 194).run Tryz.prog W= .ok (.agg #[.int .i64 0,.int .i64 0,.int .i64 0,.int .i64 0]) W:=by kernel_rfl
theorem OA(y:Im.Pt):(mh y).toArray.all (·.oneCell')=true:=by kernel_rfl
theorem rU:(Tryz.prog.info? 194).map (·.size)=some 4:=by kernel_rfl
theorem Fg(g2 o2 o3 n c2:Nat)(h:sliced (some ⟨g2,o2,none⟩) 1 (n+1) c2 4= .slice (some ⟨g2,o3,none⟩) n (c2-1))(W:World):(Instr.slice 155 (.slice (some ⟨g2,o2,none⟩) (n+1) c2) (some (.int .i64 1)) none none).run Tryz.prog W= .ok (.slice (some ⟨g2,o3,none⟩) n (c2-1)) W:=by
 rw[run_slice_l (P:=Tryz.prog) W 155 (some ⟨g2,o2,none⟩) (n+1) c2 (by kernel_rfl) .i64 1 (by decide) (by omega),show(Go.sizeOf (Tryz.prog.elem 155)).run Tryz.prog W= .ok 4 W from by kernel_rfl,Result.andThen_ok];show Result.ok (sliced _ 1 (n+1) c2 4) W=_;rw[h]
structure zm(w:World)(p b off cap:Nat)(x:Im)(ds:Value)(r ci g:Nat)(m:Nat->Bool)(pt:Value)(Q:List Im.Pt)(v:Value)(td:List Im.Pt)(X:Nat)(y:Im.Pt)(W:World):Prop where
 t:Bi w p b off cap x ds r ci g m pt Q v td W
 x:At W X 194 (mh y).toArray
 np:pt.ownBlock≠some X
 nv:v.ownBlock≠some X
 lx:w.heap.size<=X
theorem zm.below{b:Nat}{Q:List Im.Pt}{td:List Im.Pt}{X:Nat}{y:Im.Pt}{W:World}(h:zm w p b off cap x ds r ci g m pt Q v td X y W)(hb:Below W.heap.size W W'):zm w p b off cap x ds r ci g m pt Q v td X y W':=⟨h.t.below hb,h.x.below hb h.x.lt,h.np,h.nv,h.lx⟩
structure OG(w:World)(p b off cap:Nat)(x:Im)(ds:Value)(r ci g:Nat)(m:Nat->Bool)(pt:Value)(Q:List Im.Pt)(v:Value)(td:List Im.Pt)(X:Nat)(y:Im.Pt)(nO:Value)(W:World):Prop where
 s:sK p b off cap x ds r ci (.slice (some ⟨g,0,none⟩) (x.ni+1) (x.ni+1)) pt W
 o:aE W g 4 1 (x.ni+1) (kH m)
 q:au W w.heap.size 194 4 nO (Q++[y]).length (zG (Q++[y]))
 gr:dV (JP p) w W
 lo:p<w.heap.size/\b<w.heap.size/\r<w.heap.size/\g<w.heap.size
 t:fE W w.heap.size 194 4 v td.length (td.flatMap mh)
 ne:∀q,nO.ownBlock=some q->v.ownBlock≠some q
 x:At W X 194 (mh y).toArray
 np:nO.ownBlock≠some X
 nv:v.ownBlock≠some X
 lx:w.heap.size<=X
section
variable {w:World} {p b off cap:Nat} {x:Im} {ds:Value} {r ci g:Nat} {m:Nat->Bool} {pt:Value} {Q:List Im.Pt} {v:Value} {td:List Im.Pt} {X:Nat} {y:Im.Pt} {nO:Value} {W W':World}
theorem OG.below(h:OG w p b off cap x ds r ci g m pt Q v td X y nO W)(hb:Below W.heap.size W W'):OG w p b off cap x ds r ci g m pt Q v td X y nO W':=⟨h.s.below hb,h.o.below hb,h.q.below hb,h.gr.trans (dV.b9 hb),h.lo,h.t.below hb,h.ne,h.x.below hb h.x.lt,h.np,h.nv,h.lx⟩
theorem zm.RQ(h:zm w p b off cap x ds r ci g m pt Q v td X y W)(hg:W.grownBy W' pt.ownBlock)(ho:W'.ownsRow w.heap.size 194 4 nO (Q.length+1) (Cs (zG Q) Q.length++mh y))(hn:nO.ownBlock=pt.ownBlock\/nO.ownBlock=some W.heap.size):OG w p b off cap x ds r ci g m pt Q v td X y nO W':=by
 have hl:∀q,pt.ownBlock=some q->w.heap.size<=q:=λq hq=>(World.ownsRow.lt h.t.s.q q hq).1
 have n1:∀j,j<w.heap.size->pt.ownBlock≠some j:=λj hj e=>by have:=hl j e;omega
 obtain⟨h1,h2,h3,h4⟩:=h.t.s.lo;have hs:=h.t.s.s;refine⟨⟨⟨dE hs.k.a hg (n1 p h1),aM.fX hs.k.i hg hs.k.bl (λe=>n1 b h2 e.symm),Nat.lt_of_lt_of_le hs.k.bl hg.size⟩,aM.fX hs.i hg hs.rl (λe=>n1 r h3 e.symm),Nat.lt_of_lt_of_le hs.rl hg.size⟩,h.t.s.o.grown hg (λe=>n1 g h4 e.symm),?_,h.t.s.gr.AW hg hl,h.t.s.lo,h.t.t.kept hg (λq _ e=>h.t.ne q e),λq hq e=> ?_,dE h.x hg h.np,λe=> ?_,h.nv,h.lx⟩
 ·rw[List.length_append]
  show W'.ownsRow _ _ 4 nO (Q.length+1) (Cs (zG (Q++[y])) (Q.length+1));rw[od,Jl,iS λk hk=>Jm Q y hk];exact ho
 ·rcases hn with e2|e2
  ·exact h.t.ne q (e2.symm.trans hq) e
  rw[hq] at e2;injection e2 with e2
  obtain⟨_,cur,hc⟩:=h.t.t.own e;have:=(Array.getElem?_eq_some_iff.1 hc).1;omega
 rcases hn with e2|e2
 ·exact h.np (e2.symm.trans e)
 rw[e] at e2;injection e2 with e2
 have:=h.x.lt;omega
theorem OG.store(h:OG w p b off cap x ds r ci g m pt Q v td X y nO W)(mZ:b≠p)(DG:r≠p):zm w p b off cap x ds r ci g m nO (Q++[y]) v td X y (W.setCell ⟨p,13,none⟩ nO):=by
 have ho:az p W (W.setCell ⟨p,13,none⟩ nO):=az.setCell W ⟨p,13,none⟩ nO;obtain⟨h1,h2,h3,h4⟩:=h.lo;have Po:g≠p:=λe=>by obtain⟨c,hc,_⟩:=h.o.blk;exact At.dk h.s.k.a hc (by decide) e.symm
 exact⟨⟨⟨h.s.Qi mZ DG nO,h.o.only ho Po,fm h.q ho (λe=>by have:=(World.ownsRow.lt h.q p e).1;omega),h.gr.trans (dV.cE ho rfl),h.lo⟩,h.t.kept (fD ho) (λq hq e=>by injection e with e;omega),h.ne⟩,h.x.only ho (λe=>by have:=h.lx;omega),h.np,h.nv,h.lx⟩
theorem zm.app(h:zm w p b off cap x ds r ci g m pt Q v td X y W){z:Im.Pt}(hq:fE W' w.heap.size 194 4 v' (td.length+1) (td.flatMap mh++mh z))(hg:W.grownBy W' v.ownBlock)(hn:∀q,v'.ownBlock=some q->v.ownBlock=some q\/W.heap.size<=q):zm w p b off cap x ds r ci g m pt Q v' (td++[z]) X y W':=
 ⟨h.t.app hq hg hn,dE h.x hg h.nv,h.np,λe=>by
  rcases hn X e with e2|e2
  ·exact h.nv e2
  have:=h.x.lt;omega,h.lx⟩
end
theorem JE{y:Im.Pt}{n:Nat}(hl:y.l=l+1)(hn:n<64):(x.kids y)[n]? =some (x.kid y l n):=by
 unfold Im.kids;rw[hl];show((List.range 64).map (x.kid y l))[n]? =_;rw[List.getElem?_map,List.getElem?_range hn];rfl
theorem JC{y:Im.Pt}(hl:y.l=l+1):(x.kids y).length=64:=by
 unfold Im.kids;rw[hl];show((List.range 64).map (x.kid y l)).length=64;simp
theorem vl{W:World}{b n:Nat}{L:Nat->Nat->Int}(h:aM W b off 256 n (dR L))(hq:q<n):Seg W b (off+q*256) 256 (L q):=λj hj=>by
 exact h q hq j _ (by unfold dR Ks;simp[hj])
theorem yr{y:Im.Pt}(hl:y.l=0):x.kids y=[]:=by unfold Im.kids;rw[hl]
theorem Fh(y:Im.Pt)(W:World):(Instr.buildSlice 155 1 #[(0,.agg (mh y).toArray)]).run Tryz.prog W= .ok (.slice (some ⟨W.heap.size,0,none⟩) 1 1) (W.alloc (.cells (mh y).toArray 194)):=vp _ _ _ _ W
def R7P(w:World)(p b off cap:Nat)(x:Im)(ds:Value)(r ci g:Nat)(m:Nat->Bool)(e:Ending)(w':World):Prop:=
 (x.trees m=none/\e= .returned (.bool false)/\dV (JP p) w w')\/∃Q pt,e= .returned (.bool true)/\Im.iO x m x.ni Q/\wY w p b off cap x ds r ci g m pt Q w'
set_option maxRecDepth 100000 in
set_option maxHeartbeats 16000000 in
theorem xZ(hx:x.Ok)(kE:∀t,1<=t->t<=x.ni->(x.ino t).kz)(p b off cap:Nat)(ds:Value)(r ci g:Nat)(m:Nat->Bool)(w:World)(mZ:b≠p)(DG:r≠p)(h:sK p b off cap x ds r ci (.slice (some ⟨g,0,none⟩) (x.ni+1) (x.ni+1)) (.slice none 0 0) w)(ho:aE w g 4 1 (x.ni+1) (kH m)):
  Calls Tryz.prog 118 #[.pointer (some ⟨p,0,none⟩)] w λe w'=>R7P w p b off cap x ds r ci g m e w':=by
 have HX:=ah hx;have PW:=ah kE;have hni:x.ni<=256:=eX hx.may;have gi:=hx.iK;have dt:Hd (wY w p b off cap x ds r ci g m (.slice none 0 0) [] w):=⟨h,ho,au.nil _ _ _ _ _,dV.refl _ _,h.k.a.lt,h.k.bl,h.rl,ho.lt⟩;clear h ho hx kE;go_enter Tryz.func118,Tryz.ntmps118;go_wp2_with fail;go_loopw [3,4,5,6,7,8,9,10] (λu _ _ _ _ _ _ _ wr=>∃(k:Nat) (Q:List Im.Pt) (pt:Value),k<=x.ni/\u= .int .i64 ((k:Int)+1)/\Im.iO x m k Q/\wY w p b off cap x ds r ci g m pt Q wr) (λu _ _ _ _ _ _ _ _=>x.ni+1-(intOf u).toNat)
 case atStart=>exact⟨0,[],_,Nat.zero_le _,rfl,Im.iO.zero m,dt.Z⟩
 clear dt;obtain⟨k,Q,pt,hk,rfl,hP,st⟩:=hrel;have HP:=ah hP;have ST:=ah st;have c11:wr.cell? ⟨p,11,none⟩=some (.slice (some ⟨r,0,none⟩) (x.ni+1) ci):=st.s.k.a.cell (i:=11) rfl;clear hP st
 by_cases hlt:k<x.ni
 ·have hlt':(k:Int)+1<(x.ni:Int)+1:=by omega
  have k0:(0:Int)<=(k:Int)+1:=by omega
  have cK:wr.cell? ⟨r,(k+1)*16,none⟩=some (.int .u8 (x.ino (k+1)).kind):=ST.Z.s.ino (t:=k+1) (by omega) 0 rfl
  by_cases ku:(x.ino (k+1)).kind=0
  ·have q0:((x.ino (k+1)).kind==0)=true:=by simp[ku]
   have HN:=ah (HP.Z.free ku);clear ku;generalize (x.ino (k+1)).kind=kd at*;go_wp2_with fail;go_roundw
   case rel=>(try((repeat apply Exists.intro);refine⟨?_,rfl⟩));exact⟨k+1,Q,pt,by omega,by first|rfl|go_num,HN.Z,ST.Z⟩
   simp[intOf];omega
  have q0:((x.ino (k+1)).kind==0)=false:=by simp[ku]
  have pK:=ah (HP.Z.begin ku);have HKN:=ah ku;have eS:=PW.Z (k+1) (by omega) (by omega);have hsz:=(aS.mK eS).1;have cS:wr.cell? ⟨r,(k+1)*16+3,none⟩=some (.int .i64 (x.ino (k+1)).size):=ST.Z.s.ino (t:=k+1) (by omega) 3 rfl;have c12:wr.cell? ⟨p,12,none⟩=some (.slice (some ⟨g,0,none⟩) (x.ni+1) (x.ni+1)):=ST.Z.s.k.a.cell (i:=12) rfl;have cM:=gb ST.Z.o (show k+1<x.ni+1 by omega);obtain⟨E,hE⟩:=aa (x.en m (k+1));have hE9:E<=65536:=by rw[hE];unfold Im.en;split<;>omega
  have Ur:Hd (m (k+1)=true->E=65536):=λh=>by rw[hE];unfold Im.en;rw[if_pos h]
  have Z3:m (k+1)=false->((x.ino (k+1)).size+255).tdiv 256=(E:Int):=λh=>by
   rw[hE];unfold Im.en;rw[if_neg (by rw[h];decide),Int.tdiv_eq_ediv_of_nonneg (by omega)];omega
  have IG:=ah Z3;rw[<-hE] at pK;have Tc:=ah hE;obtain⟨sz,Gf⟩:=aa ((x.ino (k+1)).size);rw[<-Gf] at cS hsz IG;clear ku eS hE Z3 Gf;generalize (x.ino (k+1)).kind=kd at cK q0
  go_upto_if 36 with fail
  go_cut [4] from 11 to 151 (λu wx=>u= .int .i64 (E:Int)/\wx=wr)
  case first=>
   cases hm:m (k+1) with
   |true=>
    rw[hm] at cM;have e1:=Ur.Z hm;clear hm;go_wp2_with fail
    go_meet
    exact⟨by rw[e1];rfl,rfl⟩
   |false=>
    rw[hm] at cM;have e2:=IG.Z hm;clear hm;go_wp2_with fail
    go_meet
    exact⟨rfl,rfl⟩
  obtain⟨Rs,Rr⟩:=hcut;subst Rs Rr;clear c11 cK cS c12 cM Ur IG q0;have bh:Hd (Bi w p b off cap x ds r ci g m pt Q (.slice none 0 0) ((x.tV (k+1)).take 0) wc):=⟨ST.Z,fE.nil _ _ _ _,λq _ e=>by cases e⟩;clear ST;go_wp2_with fail;go_loopw [5,6] (λv u wr=>∃z:Nat,z<=11/\u= .int .i64 (z:Int)/\Bi w p b off cap x ds r ci g m pt Q v ((x.tV (k+1)).take z) wr) (λ_ u _=>11-(intOf u).toNat)
  case atStart=>exact⟨0,Nat.zero_le _,rfl,bh.Z⟩
  clear bh;obtain⟨z,hz,rfl,st⟩:=hrel;obtain⟨td,htd⟩:=aa ((x.tV (k+1)).take z);rw[<-htd] at st;have EF:=ah htd;have ST:=ah st;obtain⟨va,vc,hv⟩:=st.t.form;subst hv;clear st htd
  by_cases DE:z<11
  ·have hz':(z:Int)<11:=by omega
   have z0:(0:Int)<=(z:Int):=by omega
   have hpo:=(Im.rS HX.Z (k+1)).p z;have hcells:∀W,wY w p b off cap x ds r ci g m pt Q W->W.cell? ⟨r,(k+1)*16+4+z,none⟩=some (.int .u32 ((x.ino (k+1)).p z)):=λW h=>by
    have:=h.s.ino (t:=k+1) (by omega) (4+z) (by unfold jL;rw[Array.getElem?_toList];exact Ni _ DE);rwa[<-Nat.add_assoc] at this
   have HCP:=ah hcells;have Uf:=ah (MU (x:=x) (t:=k+1) DE);obtain⟨PB,ZL⟩:∃PB:Nat,(x.ino (k+1)).p z=(PB:Int):=⟨_,(Int.toNat_of_nonneg hpo.1).symm⟩;rw[ZL] at HCP hpo Uf;rw[Int.toNat_natCast] at Uf;clear hcells ZL;have Zp:k+1<=256:=by omega
   go_wp2_with fail;obtain⟨j0,hj,hz0,hz1,hz2⟩:=yz;have htd:=EF.Z;have HTD:Hd ((x.tV (k+1)).take (z+1)=td++[⟨k+1,PB,Im.fst z,Im.lvl z⟩]/\td.length=z):=⟨by rw[htd,List.take_add_one,Uf.Z];rfl,by rw[htd,List.length_take,Bx];omega⟩;clear htd Uf;have gi:td.length+1<=20:=by have:=HTD.Z.2;omega
   apply Vp.qF 19 (λl i v W=>Si 194 #[.int .i64 ((k:Int)+1),.int .i64 (PB:Int),.int .i64 ((Im.fst z:Nat):Int),.int .i64 ((Im.gh (Im.lvl z):Nat):Int)] (λv W=>Bi w p b off cap x ds r ci g m pt Q v (td++[⟨k+1,PB,Im.fst z,Im.lvl z⟩]) W) l i v W) (λl W=>S7a (wY w p b off cap x ds r ci g m pt Q) (Bi w p b off cap x ds r ci g m pt Q (.slice va td.length vc) td) l W) (wY w p b off cap x ds r ci g m pt Q)
   case hm=>kernel_rfl
   case hd=>kernel_rfl
   case hpre=>kernel_rfl
   case hB=>kernel_rfl
   case hVl=>exactλl l' he i v W h=>h.up (λg0 _ e=>⟨(he 20 (by decide) (by decide)).trans e,λh=>h⟩) (λv _ h=>h)
   case hS=>exactλl l' W he h=>⟨h.c,λe=>h.b ((he 20 (by decide) (by decide)).trans e),λe=>by rw[<-he 20 (by decide) (by decide)];exact h.o ((he 21 (by decide) (by decide)).trans e)⟩
   case hSC=>exactλl W h=>h.c
   case hVb=>exactλl i v W W' h hb=>h.up (λg0 _ e=>⟨e,λh=>h.below hb h.lt⟩) (λv _ h=>h.below hb)
   case hSb=>exactλl W W' h hb _=>⟨h.c.below hb,λe=>(h.b e).below hb,h.o⟩
   case hlate=>
    intro l hc i o j d hi ho hj hd hr hl;obtain⟨rfl,rfl⟩:=Vp.JB (i0:=0) (j0:=21) (by kernel_rfl) hi ho hj hd hr;cases e:l 21 with
    |false=>rfl
    |true=>
     have e20:=aq (hc 21 _ rfl e) 20 (by kernel_rfl);have e0:=aq (hc 20 _ rfl e20) 0 (by kernel_rfl);rw[hl] at e0;cases e0
   case h0=>exact⟨ST.Z.s.below ⟨rfl,rfl,rfl,Nat.le_refl _,λ_ _=>rfl⟩,λ_=>ST.Z.below ⟨rfl,rfl,rfl,Nat.le_refl _,λ_ _=>rfl⟩,λe=>by cases e⟩
   case hwalk=>
    simp only[List.take];intro R hR hne;have c11:∀y':a9 (λW=>wY w p b off cap x ds r ci g m pt Q W/\R W),y'.W.cell? ⟨p,11,none⟩=some (.slice (some ⟨r,0,none⟩) (x.ni+1) ci):=λy'=>y'.h.1.s.k.a.cell (i:=11) rfl
    have cP:∀y':a9 (λW=>wY w p b off cap x ds r ci g m pt Q W/\R W),y'.W.cell? ⟨r,(k+1)*16+4+z,none⟩=some (.int .u32 (PB:Int)):=λy'=>HCP.Z _ y'.h.1
    iterate 14 go_big_quiet_step (fail)
    go_big_quiet_want
    go_big_quiet_op
    refine⟨_,λs=>aN s (λW hW=>(vH z DE W).mono λe w' h=>⟨h.1,hW.1.below h.2,hR _ _ hW.2 h.2⟩),?_⟩
    go_big_quiet_on
    go_big_quiet_step (fail)
    go_big_quiet_want
    go_big_quiet_op
    refine⟨_,λs=>aN s (λW hW=>(j1 z DE W).mono λe w' h=>⟨h.1,hW.1.below h.2,hR _ _ hW.2 h.2⟩),?_⟩
    go_big_quiet_on
    go_big_quiet_want
    go_big_quiet_op
    refine⟨_,λs=>aN s (λW hW=>(pd (Im.lvl z) (vT DE) W).mono λe w' h=>⟨h.1,hW.1.below h.2,hR _ _ hW.2 h.2⟩),?_⟩
    go_big_quiet_on
    go_big_quiet_step (fail)
    exact wpQuiet_nil rfl
   case hst=>
    simp only[List.drop];refine⟨?_,?_,?_,trivial⟩
    ·intro l a W hl hu h
     have e1:a.tmps.getD 69 undef= .agg #[.int .i64 ((k:Int)+1),.int .i64 (PB:Int),.int .i64 ((Im.fst z:Nat):Int),.int .i64 ((Im.gh (Im.lvl z):Nat):Int)]:=(h.vals 18 69 (aq hu 18) rfl).pre (by decide) rfl;have hb:Below W.heap.size W (W.alloc (.cells #[.int .i64 ((k:Int)+1),.int .i64 (PB:Int),.int .i64 ((Im.fst z:Nat):Int),.int .i64 ((Im.gh (Im.lvl z):Nat):Int)] 194)):=ag.alloc af _;exact Vm.step h (by kernel_rfl) rfl rfl rfl hl (eZ (Vp.Ll 155 1 (.tmp 69) rfl e1 (vp _ _ _ _ W)) ⟨_,rfl,λn d _ _ hv=>hv.up λ_ hv=>hv.up (λg0 _ e=>⟨e,λh=>h.below hb h.lt⟩) (λv _ h=>h.below hb),Vp.W.mk ⟨W.heap.size,rfl,λ_=>At.new W _ _⟩,⟨h.st.c.below hb,λe=>(h.st.b e).below hb,h.st.o⟩⟩)
    ·intro l a W hl hu h
     have e1:a.tmps.getD 51 undef= .slice va td.length vc:=(h.vals 0 51 (aq hu 0) rfl).pre (by decide) rfl;obtain⟨g0,e2,hA⟩:∃g0,a.tmps.getD 70 undef= .slice (some ⟨g0,0,none⟩) 1 1/\(l 20=false->At W g0 194 #[.int .i64 ((k:Int)+1),.int .i64 (PB:Int),.int .i64 ((Im.fst z:Nat):Int),.int .i64 ((Im.gh (Im.lvl z):Nat):Int)]):=(h.vals 19 70 (aq hu 19) rfl).post;have hT:=h.st.b hl;obtain⟨v',W',hr,hq,hg,hn⟩:=kQ (P:=Tryz.prog) W w.heap.size 155 155 194 j0 (.agg #[.int .i64 0,.int .i64 0,.int .i64 0,.int .i64 0]) 4 32 Tryz.underlying155 hj hz0 hz1 hz2 rfl (by decide) (.slice va td.length vc) td.length (td.flatMap mh) hT.t ⟨g0,0,none⟩ (mh ⟨k+1,PB,Im.fst z,Im.lvl z⟩) rfl
      (λj u hj=>by rw[bA,Nat.zero_add];exact(hA hl).cell (i:=j) (show(mh ⟨k+1,PB,Im.fst z,Im.lvl z⟩).toArray[j]? =some u from by rw[List.getElem?_toArray];exact hj)) (vI _) (by unfold maxLen;omega) (by omega) hT.s.gr.size
     have hN:=hT.app (y:=⟨k+1,PB,Im.fst z,Im.lvl z⟩) hq hg hn;exact Vm.step h (by kernel_rfl) rfl rfl rfl hl (eZ (Vp.Lm 155 (.tmp 51) (.tmp 70) rfl e1 e2 hr) ⟨_,rfl,λn d hi _ hv=>hv.up λ_ hv=>hv.up (λg0 _ e=>by cases e) (λv e7 _=>by
      rcases e7 with e7|e7
      ·subst e7;rw[hl] at hi;cases hi
      subst e7;have:=h.st.o hi;rw[hl] at this;cases this),Vp.W.mk hN,⟨hN.s,(λe=>by cases e),λ_=>rfl⟩⟩)
    intro l a W hl hu h;have u20:=aq hu 20 (by kernel_rfl);have e1:Bi w p b off cap x ds r ci g m pt Q (a.tmps.getD 71 undef) (td++[⟨k+1,PB,Im.fst z,Im.lvl z⟩]) W:=(h.vals 20 71 u20 rfl).post;exact Vm.aJ h (by kernel_rfl) rfl rfl rfl hl _ (Vl.kV (.tmp 71) rfl rfl) (λ_ _ hv=>hv.up λ_ hv=>hv.up (λg0 _ e=>⟨e,λh=>h⟩) (λv _ h=>h)) (Vp.W.mk e1) (λs=>⟨s.c,s.b,λ_=>u20⟩)
   intro a' w5 h hall;have bX:=hall [70,71,5] (by kernel_rfl);clear hall;have e5:Bi w p b off cap x ds r ci g m pt Q (a'.tmps.getD 5 undef) (td++[⟨k+1,PB,Im.fst z,Im.lvl z⟩]) w5:=(h.vals 21 5 rfl rfl).post;rw[<-HTD.Z.1] at e5;rw[List.foldl_cons,List.foldl_cons,List.foldl_cons,List.foldl_nil] at bX;obtain⟨v5,h5⟩:=ae (a'.tmps.getD 5 undef);obtain⟨v70,h70⟩:=ae (a'.tmps.getD 70 undef);obtain⟨v71,h71⟩:=ae (a'.tmps.getD 71 undef);rw[h5,h70,h71] at bX;clear h70 h71;simp only[Act.put,List.setIfInBounds_toArray,List.set_cons_succ,List.set_cons_zero] at bX;rw[h5] at e5;have ed:=ah e5;subst bX;clear h e5 ST h5;go_wp2_with fail;go_roundw
   case rel=>(try((repeat apply Exists.intro);refine⟨?_,rfl⟩));exact⟨z+1,by omega,by go_num,ed.Z⟩
   simp[intOf];omega
  obtain rfl:z=11:=by omega
  have HT:Hd (td=x.tV (k+1)):=by show _=_;rw[EF.Z,List.take_of_length_le (by rw[Bx];exact Nat.le_refl _)]
  go_wp2_with fail;clear DE hz;go_loopw [5,7,8,9,10] (λv _ _ _ _ wr=>∃(td Q':List Im.Pt) (Dg:Value),Im.o4 x E (k+1) (x.yZ (k+1)) (x.gk m (k+1) (Im.bN Q)) td Q'/\(∀y∈td,y.l<4)/\Bi w p b off cap x ds r ci g m Dg Q' v td wr) (λv _ _ _ _ wr=>P8 wr v)
  case atStart=>exact⟨td,Q,pt,by rw[HT.Z];exact pK.Z,by rw[HT.Z];exact MT,ST.Z⟩
  clear ST HT EF pK;obtain⟨td,Q',Dg,hI,hl4,st⟩:=hrel;have HI:=ah hI;have HL:=ah hl4;clear hI hl4;cases td with
  |nil=>
   obtain⟨a2,c2,hv⟩:=st.t.form;subst hv;have HN:=ah (HP.Z.done (by rw[<-Tc.Z];exact HI.Z));have ST:=ah st;clear st;go_wp2_with fail;go_roundw
   case rel=>(try((repeat apply Exists.intro);refine⟨?_,rfl⟩));exact⟨k+1,Q',Dg,by omega,by first|rfl|go_num,HN.Z,ST.Z.s⟩
   simp[intOf];omega
  |cons y td=>
   have hwt:=uZ st.t HL.Z;have ht:fE wr w.heap.size 194 4 _ (td.length+1) (mh y++td.flatMap mh):=st.t;obtain⟨g2,o2,c2,hv,hcap,Ik⟩:=ht.front;subst hv;obtain⟨o3,hsl,Y7⟩:=fE.pop ht rfl;have hsr:=Fg g2 o2 o3 td.length c2 hsl;have hgl:g2<wr.heap.size:=by
    obtain⟨_,cur,hc⟩:=ht.own rfl;exact(Array.getElem?_eq_some_iff.1 hc).1
   have hpl:∀q,Dg.ownBlock=some q->q<wr.heap.size:=λq hq=>(World.ownsRow.lt st.s.q q hq).2
   have ST:Hd (Bi w p b off cap x ds r ci g m Dg Q' (.slice (some ⟨g2,o3,none⟩) td.length (c2-1)) td wr):=⟨st.s,Y7,λq hq e=>st.ne q hq e⟩;have HWT:=ah hwt;have Zl:td.length+1<=200000:=by
    have h1:=HI.Z.len;have h2:=HI.Z.M4;rw[List.length_cons] at h1;omega
   have hzp:=IK;have Zb:=At.new wr 194 #[.int .i64 0,.int .i64 0,.int .i64 0,.int .i64 0];have SY:=ah hgl;have Mm:=ah hpl;clear st ht hsl Y7 hwt hgl hpl;go_wp2_with (first|(refine aH rfl 194 (.tmp 76) rfl g2 o2 (mh y) _ rfl Ik Tryz.underlying194 rfl rU ?_)|(refine aD rfl 194 (.tmp 7) (.tmp 77) rfl wr.heap.size (mh y).toArray #[.int .i64 0,.int .i64 0,.int .i64 0,.int .i64 0] rfl rfl Zb rU rfl (OA y) ?_))
   intro w4 LU ke;have hb4:Below wr.heap.size wr w4:=(ag.alloc af _).trans (ke.below af);have ey:Hd (zm w p b off cap x ds r ci g m Dg Q' (.slice (some ⟨g2,o3,none⟩) td.length (c2-1)) td wr.heap.size y w4):=⟨ST.Z.below hb4,LU,λe=>by have:=Mm.Z _ e;omega,λe=>by injection e with e;have:=SY.Z;replace e:g2=wr.heap.size:=e;omega,ST.Z.s.gr.size⟩;obtain⟨X,hX⟩:=aa wr.heap.size;rw[<-hX] at ey ⊢;obtain⟨M0,Xa⟩:=aa (P8 wr (.slice (some ⟨g2,o2,none⟩) (td.length+1) c2));have Mo:Hd (M0=IT y.l+EM td):=by show _=_;rw[Xa];exact HWT.Z
   have PY:=ah Xa;have cB:w4.cell? ⟨X,1,none⟩=some (.int .i64 (y.b:Int)):=ey.Z.x.cell (i:=1) rfl;have cF:w4.cell? ⟨X,2,none⟩=some (.int .i64 (y.f:Int)):=ey.Z.x.cell (i:=2) rfl;clear ST LU ke hb4 hX Ik hzp Zb SY Mm Xa HWT
   by_cases xh:y.b=0
   ·have q1:((y.b:Int)==0)=true:=by simp[xh]
    have zO:=ah (HI.Z.skip xh);have ju:Hd (∀z∈td,z.l<4):=λz hz=>HL.Z z (List.mem_cons_of_mem _ hz)
    have OT:Hd (P8 w4 (.slice (some ⟨g2,o3,none⟩) td.length (c2-1))<M0):=by
     show _<_;rw[uZ ey.Z.t.t ju.Z,Mo.Z];have:0<IT y.l:=by cases y.l<;>(unfold IT;omega)
     omega
    clear xh;go_wp2_with fail;go_roundw
    case rel=>(try((repeat apply Exists.intro);refine⟨?_,rfl⟩));exact⟨td,Q',Dg,zO.Z,ju.Z,ey.Z.t⟩
    first|exact OT.Z|(have:=OT.Z;rw[PY.Z] at this;exact this)
   have q1:((y.b:Int)==0)=false:=by simp;omega
   have HYB:=ah xh;have cY:Hd (¬(y.f<min E 65536/\x.data y.b=true/\Im.bN Q' y.b=0)->∀W',dV (JP p) w W'->R7P w p b off cap x ds r ci g m (.returned (.bool false)) W'):=λh W' hg=> .inl ⟨HP.Z.none (by omega) (HI.Z.bad xh h),rfl,hg⟩
   by_cases Vh:y.f<E
   ·have d1:decide ((E:Int)<=(y.f:Int))=false:=decide_eq_false (by omega)
    have d1':decide (E<=y.f)=false:=decide_eq_false (by omega);have HYF:=ah Vh;clear xh Vh;go_wp2_with fail;refine(rk HX.Z p b off cap ds _ _ _ y.b w4 ey.Z.t.s.s.k).mono ?_;rintro e w5 ⟨rfl,om⟩;have ed:=ah (ey.Z.below om);clear cB cF;have cB:w5.cell? ⟨X,1,none⟩=some (.int .i64 (y.b:Int)):=ed.Z.x.cell (i:=1) rfl;clear ey om q1;cases Pr:x.data y.b with
    |false=>
     have HF:=ah (cY.Z (λh=>by rw[Pr] at h;cases h.2.1));clear Pr;go_wp2_with fail;go_ret;exact HF.Z _ ed.Z.t.s.gr
    |true=>
     have HDT:=ah Pr;clear Pr;go_wp2_with fail;refine(kS p b off cap ds _ _ _ Q' (by have:=HI.Z.M4;omega) y.b w5 ed.Z.t.s.s.k ed.Z.t.s.ptV).mono ?_;rintro e w6 ⟨rfl,m4⟩;have jj:=ah (ed.Z.below m4);clear ed m4 cB
     by_cases Q5:Im.bN Q' y.b=0
     ·have hd2:decide ((0:Int)<((Im.bN Q' y.b:Nat):Int))=false:=decide_eq_false (by omega)
      have hd3:decide (0<Im.bN Q' y.b)=false:=decide_eq_false (by omega);have HG:=ah (HI.Z.Xq (by omega) HYB.Z ⟨by have:=HYF.Z;omega,HDT.Z,Q5⟩);clear Q5 cY;go_wp2_with fail;obtain⟨j0,hj,hz0,hz1,hz2⟩:=yz;have hq9:Q'.length+1<=4000:=by have:=HI.Z.M4;omega
      show(Code.region _ (Vp.Ay 101 7 157 6 194 155 152 "ref.go:119").toArray true).wp _ _ _ _;refine Vp.Br 101 7 157 6 194 155 152 "ref.go:119" p 13 X Dg (mh y).toArray (zm w p b off cap x ds r ci g m Dg Q' (.slice (some ⟨g2,o3,none⟩) td.length (c2-1)) td X y) (OG w p b off cap x ds r ci g m Dg Q' (.slice (some ⟨g2,o3,none⟩) td.length (c2-1)) td X y) (λW=>∃nO,zm w p b off cap x ds r ci g m nO (Q'++[y]) (.slice (some ⟨g2,o3,none⟩) td.length (c2-1)) td X y W)
       (by kernel_rfl) (by kernel_rfl) (by kernel_rfl) (by kernel_rfl) (by kernel_rfl) (by rfl) (by rfl) (λW=>by kernel_rfl) (by kernel_rfl) (λW=>by kernel_rfl) _ Tryz.underlying194 rfl rU (Fh y) (λW W' h hb=>h.below hb) (λv W W' h hb=>h.below hb) (λW W' h hb=> ?f1) (jj.Z.below ⟨rfl,rfl,rfl,Nat.le_refl _,λ_ _=>rfl⟩) (λW h=>h.t.s.s.k.a.cell (i:=13) rfl) ?one (λW h=> ?row) (λW g0 h hA=> ?app) (λv' W h=> ?sto) ?fin
      case f1=>obtain⟨v',h⟩:=h;exact⟨v',h.below hb⟩
      case one=>obtain⟨a,c,e⟩:=au.form jj.Z.t.s.q;rw[e];rfl
      case row=>exactλj u hj=>by rw[Nat.zero_add];exact h.x.cell (by simpa using hj)
      case app=>
       obtain⟨v',W',hr,ho,hg,_,hn⟩:=run_append_own_at (P:=Tryz.prog) W w.heap.size 155 155 194 j0 (.agg #[.int .i64 0,.int .i64 0,.int .i64 0,.int .i64 0]) 4 32 Tryz.underlying155 hj hz0 hz1 hz2 rfl (by decide) Dg Q'.length (Cs (zG Q') Q'.length) h.t.s.q ⟨g0,0,none⟩ 1 1 (mh y) rfl
        (λj u hj=>by rw[bA,Nat.zero_add];exact hA.cell (by simpa using hj)) (vI y) (by unfold maxLen;omega) (by omega) h.t.s.gr.size
       exact⟨v',W',hr,h.RQ hg ho hn⟩
      case sto=>exact⟨⟨_,h.s.k.a.cell (i:=13) rfl⟩,an h.s.k.a 13,by obtain⟨a,c,e⟩:=au.form h.q;rw[e];rfl,v',h.store mZ DG⟩
      intro u0 u1 u2 u3 u4 u5 u6 u7 u8 u9 w7 hF;obtain⟨nO,h7⟩:=hF;have EC:Hd (zm w p b off cap x ds r ci g m nO (Q'++[y]) (.slice (some ⟨g2,o3,none⟩) td.length (c2-1)) (td++(x.kids y).take 0) X y w7):=by rw[List.take_zero,List.append_nil];exact h7
      clear jj h7 hq9;simp only[Act.put,List.setIfInBounds_toArray,List.set_cons_succ,List.set_cons_zero];go_wp2_with fail;have hl4:=HL.Z y (List.mem_cons_self ..);go_loopw [5,8,9,10] (λv u _ _ wr=>∃n:Nat,n<=(x.kids y).length/\u= .int .i64 (n:Int)/\zm w p b off cap x ds r ci g m nO (Q'++[y]) v (td++(x.kids y).take n) X y wr) (λ_ u _ _ _=>64-(intOf u).toNat)
      case atStart=>exact⟨0,Nat.zero_le _,rfl,EC.Z⟩
      clear EC;obtain⟨n,hn,rfl,st⟩:=hrel;have NN:=Im.yt (x:=x) y;have ST:=ah st;obtain⟨a5,c5,hv5⟩:=st.t.t.form;subst hv5;obtain⟨tQ,Nv⟩:=aa (td++(x.kids y).take n);rw[<-Nv] at ST st ⊢;have EG:=ah Nv;clear Nv;have cS:wr.cell? ⟨X,3,none⟩=some (.int .i64 ((Im.gh y.l:Nat):Int)):=st.x.cell (i:=3) rfl;clear st
      by_cases hnl:n<(x.kids y).length
      ·obtain⟨l,hl⟩:∃l,y.l=l+1:=by
        cases LI:y.l with
        |zero=>rw[yr LI] at hnl;cases hnl
        |succ l=>exact⟨l,rfl⟩
       have VY:n<64:=by omega
       have Zc:(n:Int)<64:=by omega
       have HKA:=ah (JE (x:=x) hl VY);have hS1:Im.gh y.l=64*Im.gh l:=by rw[hl];unfold Im.gh;rw[Nat.pow_succ,Nat.mul_comm]
       have J8:Im.gh l<=4096/\1<=Im.gh l:=by
        have:l=0\/l=1\/l=2:=by omega
        rcases this with rfl|rfl|rfl<;>decide
       obtain⟨S0,yN⟩:=aa (Im.gh l);obtain⟨S1,J9⟩:=aa (Im.gh y.l);rw[<-J9,<-yN] at hS1;rw[<-yN] at J8;rw[<-J9] at cS;have hs1:decide ((1:Int)<(S1:Int))=true:=decide_eq_true (by omega);have acZ:decide (1<S1)=true:=decide_eq_true (by omega);have hmul:n*S0<=64*4096:=Nat.mul_le_mul (by omega) J8.1;obtain⟨N0,RF⟩:=aa (n*S0);have BU:(n:Int)*(S1:Int)=64*(N0:Int):=by
        rw[hS1,RF,Int.natCast_mul,Int.natCast_mul];rw[Int.mul_left_comm];rfl
       have hq1:(64*(N0:Int)).tdiv 64=(N0:Int):=by rw[Int.tdiv_eq_ediv_of_nonneg (by omega)];omega
       have hq2:(S1:Int).tdiv 64=(S0:Int):=by rw[Int.tdiv_eq_ediv_of_nonneg (by omega)];omega
       rw[<-RF] at hmul;have Sw:Hd (N0=n*Im.gh l/\S0=Im.gh l):=⟨by rw[RF,yN],yN⟩;have acJ:y.f<65536:=by have:=HYF.Z;omega
       have Vg:y.b<x.n:=Im.B8 HDT.Z;have Vf:(y.b:Int)<(x.n:Int):=by omega
       have kB:=ah hl;have HNL:=ah hnl;have PT:=ah J9;have afs:=ah hS1;clear hnl RF yN J9 hl hS1;go_wp2_with fail;have hsl:=dW b (off+y.b*256);refine ar (zm w p b off cap x ds r ci g m nO (Q'++[y]) (.slice a5 tQ.length c5) tQ X y) (ST.Z.below ⟨rfl,rfl,rfl,Nat.le_refl _,λ_ _=>rfl⟩) ?_;clear ST cS;intro hne;have c0:∀y':a9 (zm w p b off cap x ds r ci g m nO (Q'++[y]) (.slice a5 tQ.length c5) tQ X y),y'.W.cell? ⟨p,0,none⟩=some (.slice (some ⟨b,off,none⟩) x.n cap):=λy'=>y'.h.t.s.s.k.a.cell (i:=0) rfl
       have cB:∀y':a9 (zm w p b off cap x ds r ci g m nO (Q'++[y]) (.slice a5 tQ.length c5) tQ X y),y'.W.cell? ⟨X,1,none⟩=some (.int .i64 (y.b:Int)):=λy'=>y'.h.x.cell (i:=1) rfl
       iterate 10 go_big_quiet_step (fail)
       go_big_quiet_want
       go_big_quiet_op
       refine⟨_,λs=>aN s (λW hW=>(fx b (off+y.b*256) 256 256 (4*(n:Int)) (x.L y.b) W (by decide) (by omega) (by omega) (vl hW.t.s.s.k.i Vg) (HX.Z.jx _)).mono λe w' h=>⟨h.1,by obtain⟨mm,hm⟩:=h.2;rw[hm];exact hW.below (iD ag mm)⟩),?_⟩
       go_big_quiet_on
       repeat go_big_quiet_step (fail)
       refine wpQuiet_nil ?_;intro w8 h8;have tD:=ah h8.Z;have cF:w8.cell? ⟨X,2,none⟩=some (.int .i64 (y.f:Int)):=h8.Z.x.cell (i:=2) rfl;have cS:w8.cell? ⟨X,3,none⟩=some (.int .i64 (S1:Int)):=by rw[PT.Z];exact h8.Z.x.cell (i:=3) rfl
       have HW:=Im.nj HX.Z y.b n;have Z2:(4*(n:Int)).toNat=4*n:=by omega
       rw[Z2,<-HW.1];obtain⟨K,hK⟩:=aa (x.sX y.b n);rw[<-hK] at HW ⊢;have Oc:K<4294967296:=by have:=HW.2;omega
       have YX:y.i=k+1:=HI.Z.own y (List.mem_cons_self ..);have IE:Hd ([.int .i64 ((k:Int)+1),.int .i64 (K:Int),.int .i64 ((y.f:Int)+(N0:Int)),.int .i64 (S0:Int)]=mh (x.kid y l n)):=by
        show _=[Value.int .i64 ((y.i:Nat):Int),.int .i64 ((x.sX y.b n:Nat):Int),.int .i64 ((y.f+n*Im.gh l:Nat):Int),.int .i64 ((Im.gh l:Nat):Int)];rw[YX,<-hK,<-Sw.Z.1,<-Sw.Z.2];rfl
       have wE:Below w8.heap.size w8 (w8.alloc (.cells #[.int .i64 ((k:Int)+1),.int .i64 (K:Int),.int .i64 ((y.f:Int)+(N0:Int)),.int .i64 (S0:Int)] 194)):=ag.alloc af _;have n9:=ah (tD.Z.below wE);have hown:=n9.Z.t.t;have hnews:∀i u,([.int .i64 ((k:Int)+1),.int .i64 (K:Int),.int .i64 ((y.f:Int)+(N0:Int)),.int .i64 (S0:Int)]:List Value)[i]? =some u->(w8.alloc (.cells #[.int .i64 ((k:Int)+1),.int .i64 (K:Int),.int .i64 ((y.f:Int)+(N0:Int)),.int .i64 (S0:Int)] 194)).cell? ((⟨w8.heap.size,0,none⟩:Addr).add i)=some u:=eN w8 _ _;have h1c:∀u∈([.int .i64 ((k:Int)+1),.int .i64 (K:Int),.int .i64 ((y.f:Int)+(N0:Int)),.int .i64 (S0:Int)]:List Value),u.oneCell'=true:=by rw[IE.Z];exact vI _
       have hbase:=n9.Z.t.s.gr.size;have htl:tQ.length+1<=400000:=by
        rw[EG.Z,List.length_append,List.length_take];omega
       have Zm:(0:Int)<=(tQ.length:Int):=by omega
       clear h8 hne c0 cB hsl tD wE hK HW Z2 YX;go_wp2_with (first|(refine er rfl 155 1 0 (.tmp 149) rfl (.agg #[.int .i64 ((k:Int)+1),.int .i64 (K:Int),.int .i64 ((y.f:Int)+(N0:Int)),.int .i64 (S0:Int)]) rfl _ _ (vp _ _ _ _ _) ?_)|(refine nt rfl (.tmp 134) (.tmp 150) 155 rfl w.heap.size 194 j0 (.agg #[.int .i64 0,.int .i64 0,.int .i64 0,.int .i64 0]) 4 32 Tryz.underlying155 hj hz0 hz1 hz2 rfl (by decide) (.slice a5 tQ.length c5) tQ.length (tQ.flatMap mh) rfl hown ⟨w8.heap.size,0,none⟩ [.int .i64 ((k:Int)+1),.int .i64 (K:Int),.int .i64 ((y.f:Int)+(N0:Int)),.int .i64 (S0:Int)] rfl rfl hnews h1c (by unfold maxLen;omega) (by omega) hbase ?_))
       intro v' pL NG Ro Q8;rw[IE.Z] at NG;have Ip:=n9.Z.app (z:=x.kid y l n) NG Ro (by rw[World.size_alloc];exact Q8);have ZF:tQ++[x.kid y l n]=td++(x.kids y).take (n+1):=by rw[EG.Z,List.take_add_one,HKA.Z,List.append_assoc];rfl
       rw[ZF] at Ip;have tE:=ah Ip;obtain⟨a6,c6,Nu⟩:=Ip.t.t.form;clear ZF Ip NG Ro Q8 n9 hown hnews h1c hbase cF cS;go_wp2_with fail;go_roundw
       case rel=>(try((repeat apply Exists.intro);refine⟨?_,rfl⟩));exact⟨n+1,HNL.Z,by first|rfl|go_num,tE.Z⟩
       simp[intOf];omega
      have Q7:n=(x.kids y).length:=by omega
      have OL:Hd (tQ=td++x.kids y):=by show _=_;rw[EG.Z,Q7,List.take_length]
      have ju:Hd (∀z∈tQ,z.l<4):=by
       show∀z∈tQ,z.l<4;rw[OL.Z];intro z hz;rcases List.mem_append.1 hz with hz|hz
       ·exact HL.Z z (List.mem_cons_of_mem _ hz)
       exact JD hl4 z hz
      have OT:Hd (P8 wr (.slice a5 tQ.length c5)<M0):=by
       show _<_;rw[uZ ST.Z.t.t ju.Z,Mo.Z,OL.Z,Bq];have:=EL (x:=x) y;omega
      have HG2:=HG.Z;rw[<-OL.Z] at HG2;have OV:=ah HG2;clear HG2;cases LI:y.l with
      |zero=>
       have hn0:n=0:=by rw[Q7,yr LI];rfl
       subst hn0;rw[LI] at cS;have cS1:wr.cell? ⟨X,3,none⟩=some (.int .i64 1):=cS;clear cS Q7 LI hl4;go_wp2_with fail;go_roundw
       case rel=>(try((repeat apply Exists.intro);refine⟨?_,rfl⟩));exact⟨tQ,Q'++[y],nO,OV.Z,ju.Z,ST.Z.t⟩
       first|exact OT.Z|(have:=OT.Z;rw[PY.Z] at this;exact this)
      |succ l=>
       have hn0:n=64:=by rw[Q7,JC LI]
       subst hn0;clear cS Q7 LI hl4;go_wp2_with fail;go_roundw
       case rel=>(try((repeat apply Exists.intro);refine⟨?_,rfl⟩));exact⟨tQ,Q'++[y],nO,OV.Z,ju.Z,ST.Z.t⟩
       first|exact OT.Z|(have:=OT.Z;rw[PY.Z] at this;exact this)
     have hd2:decide ((0:Int)<((Im.bN Q' y.b:Nat):Int))=true:=decide_eq_true (by omega);have hd3:decide (0<Im.bN Q' y.b)=true:=decide_eq_true (by omega);have HF:=ah (cY.Z (λh=>Q5 h.2.2));clear Q5;go_wp2_with fail;go_ret;exact HF.Z _ jj.Z.t.s.gr
   have d1:decide ((E:Int)<=(y.f:Int))=true:=decide_eq_true (by omega);have d1':decide (E<=y.f)=true:=decide_eq_true (by omega);have HF:=ah (cY.Z (λh=>by have:=h.1;omega));clear Vh xh;go_wp2_with fail;go_ret;exact HF.Z _ ey.Z.t.s.gr
 obtain rfl:k=x.ni:=by omega
 go_wp2_with fail;go_ret;exact .inr ⟨Q,pt,rfl,HP.Z,ST.Z⟩
end Go.Proofs.YtphamecphmbipaaGreatDoor
