/- Texts of this claim, merged. -/
import Derived.Test.YtphamecphmbipaaGreatDoorK10
import Derived.Test.YtphamecphmbipaaGreatDoorK09
set_option linter.unusedVariables false
set_option maxRecDepth 100000
set_option maxHeartbeats 16000000

namespace Go.Proofs.YtphamecphmbipaaGreatDoor
open Go.RowKit
open Lib (hid)
variable {G S J:Int} {w W':World} {g:Nat} {z:Nat->Int} {T:TypeId}
def dH(b i d:Nat->Int):Nat->Nat->Int
 |0=>λ_=>0
 |k+1=>upd (upd (upd (dH b i d k) (4*k) (b k)) (4*k+1) (i k)) (4*k+2) (d k)
def mJ(G S I J:Int)(n:Nat)(b i d:Nat->Int):Bool:=aM G S I J&&jR G S I J n b i d
def pc(G S I J:Int)(n:Nat)(b i d:Nat->Int):Int:=if aM G S I J then(if jR G S I J n b i d then 0 else 2) else 50
def kh(G S I J:Int)(n:Nat)(b i d:Nat->Int):Nat->Int:=if mJ G S I J n b i d then lS (hz (dH b i d n)) elseλ_=>0
theorem x4{I:Int}{n:Nat}{b i d:Nat->Int}(hm:aM G S I J=true)(h:jR G S I J n b i d=true):(n:Int)=G/\n<=4/\∀k,k<n->(0<=b k/\b k<=512)/\(0<=i k/\i k<=64)/\(0<=d k/\d k<=64):=by
 unfold jR at h;rw[Bool.and_eq_true,decide_eq_true_eq,aP] at h;obtain⟨h1,h2,h3,h4,h5,h6,h7,h8,h9,h10,h11⟩:=(aX G S I J).1 hm;have:=Ad G S I J;refine⟨h.1,by omega,λk hk=> ?_⟩;have:=(vB _ _ _ _ _).1 (h.2 k hk);omega
abbrev rB(z:Nat->Int)(k:Nat):Int:=hd z (4*k)
abbrev rI(z:Nat->Int)(k:Nat):Int:=hd z (4*k+1)
abbrev rD(z:Nat->Int)(k:Nat):Int:=hd z (4*k+2)
def jm(G S I J:Int)(z:Nat->Int):Bool:=
 xr z&&(de (λi=>z (8*G.toNat+i)) (252-8*G.toNat)&&(aD (λk=>hd z (4*k+3)==0) G.toNat&&jR G S I J G.toNat (rB z) (rI z) (rD z)))
def il(G S I J:Int)(z:Nat->Int):Bool:=aM G S I J&&jm G S I J z
def mM(w:World)(G S I J:Int)(z:Nat->Int)(v:Value)(e:Int)(W:World):Prop:=
 (il G S I J z=true/\e=0/\ah W w.heap.size 67 3 v G.toNat (df (rB z) (rI z) (rD z)))\/(il G S I J z=false/\e=(if aM G S I J then 60 else 50)/\v= .slice none 0 0)
theorem Cj(z:Nat->Int)(hzb:bm z)(k:Nat):de (λi=>z (8*k+6+i)) 2=(hd z (4*k+3)==0):=by
 have h:=Kp hzb (4*k+3) 1;rw[show 2*(4*k+3)=8*k+6 by omega] at h;rw[show 2*1=2 from rfl] at h;rw[h,Bool.eq_iff_iff];simp[de]
theorem jW:(Tryz.prog.info? 67).map (λi=>(i.zero,i.size,i.bytes))=some (some (kp 0 0 0),3,24):=by kernel_rfl
theorem RH(B I D:Int):(gK B I D).all (·.oneCell')=true:=by kernel_rfl
def x2(z:Nat->Int)(k j:Nat):List Value:=if j<k then df (rB z) (rI z) (rD z) j else [.int .i64 0,.int .i64 0,.int .i64 0]
theorem FC(z:Nat->Int)(k j:Nat):(x2 z k j).length=3:=by unfold x2;split<;>rfl
structure RD(w:World)(G S I J:Int)(g:Nat)(z:Nat->Int)(W:World):Prop where
 s:At W w.heap.size 23 (aa G S I J)
 p:aQ W g 108 256 z
 bel:Below w.heap.size w W
theorem RD.below{I:Int}{W:World}(h:RD w G S I J g z W)(hb:Below W.heap.size W W'):RD w G S I J g z W':=
 ⟨h.s.below hb h.s.lt,h.p.below hb h.p.lt,h.bel.trans (hb.mono h.bel.size)⟩
theorem RD.only{I:Int}{q:Nat}{W:World}(h:RD w G S I J g z W)(hb:an q W W')(h1:w.heap.size<q)(h2:g≠q):RD w G S I J g z W':=
 ⟨h.s.only hb (by omega),h.p.only hb h2,h.bel.trans (hb.below (by omega))⟩
theorem mh(G S I J:Int)(z:Nat->Int)(hzb:bm z)(w:World)(hT:Tab w):
  Calls Tryz.prog 16 #[bN G S I J,aL z] w λe w'=>∃v E,e= .returned (.tuple #[v,.int .i64 E])/\mM w G S I J z v E w'/\Below w.heap.size w w':=by
 have Wj:=ts;have Ny:=λW=>r6 z W
 have HT:=hid hT;obtain⟨W,hW⟩:∃W,W=(w.alloc (.cells (aa G S I J) 23)).alloc (.cells (Ks .u8 256 z).toArray 32):=⟨_,rfl⟩;have hS:At W w.heap.size 23 (aa G S I J):=by rw[hW];exact(At.new w _ _).alloc _
 have hB:aQ W (w.heap.size+1) 32 256 z:=by
  rw[hW];have:=aQ.new (w.alloc (.cells (aa G S I J) 23)) 32 256 z;simp only[World.size_alloc] at this;exact this
 have hL:Below w.heap.size w W:=by rw[hW];exact((Below.refl _ _).alloc (Nat.le_refl _) _).alloc (by simp) _
 have HW:=hid hW;clear hW hT;go_enter Tryz.func16,Tryz.ntmps16;have yw:At ((w.alloc (.cells (aa G S I J) 23)).alloc (.cells (Ks .u8 256 z).toArray 32)) w.heap.size 23 (aa G S I J):=(At.new w _ _).alloc _;go_wp2_with (first|(refine ar rfl 23 (.tmp 2) rfl _ _ _ rfl yw Tryz.underlying23 rfl (by kernel_rfl) ?_))
 rw[<-HW.out];clear HW yw;refine(eu G S I J W).mono ?_;rintro e w1 ⟨rfl,hb1⟩;have hS1:=hS.below hb1 hS.lt;have vY:=hB.below hb1 hB.lt;have fR:Below w.heap.size w w1:=hL.trans (hb1.mono hL.size);clear hS hB hL hb1;cases hm:aM G S I J with
 |false=>
  have HO:Hid (mM w G S I J z (.slice none 0 0) 50 w1):=.inr ⟨by unfold il;rw[hm];rfl,by rw[hm];rfl,rfl⟩;clear hm;go_wp2_with fail
  go_ret2
  exact⟨_,_,rfl,HO.out,fR⟩
 |true=>
 have HM:=hid hm;have hG:1<=G/\G<=4:=by
  obtain⟨h1,h2,h3,h4,h5,h6,h7,h8,h9,h10,h11⟩:=(aX G S I J).1 hm;exact⟨h1,h2⟩
 clear hm;have HF:Hid (∀W,jm G S I J z=false->mM w G S I J z (.slice none 0 0) 60 W):=λW h=> .inr ⟨by unfold il;rw[HM.out,h];rfl,by rw[HM.out];rfl,rfl⟩
 obtain⟨n,hn⟩:∃n:Nat,G=(n:Int):=⟨G.toNat,by omega⟩;have KH:Hid (G.toNat=n):=by show _=_;omega
 have YG:1<=n/\n<=4:=by omega
 have hP:At (w1.alloc (.cells (Ks .u8 256 (λ_=>0)).toArray 108)) w1.heap.size 108 (Ks .u8 256 (λ_=>0)).toArray:=At.new _ _ _;have hsz:=vY.lt;have wI:=hid (hS1.alloc (.cells (Ks .u8 256 (λ_=>0)).toArray 108));have lq:Hid (Below w.heap.size w (w1.alloc (.cells (Ks .u8 256 (λ_=>0)).toArray 108))):=fR.alloc fR.size _;have DY:=hid hn;clear hS1 fR hn;go_wp2_with (first|(refine dD rfl (.tmp 3) rfl (w.heap.size+1) z rfl vY ?_)|(refine tw rfl 108 0 (.tmp 12) rfl (aL z) _ rfl (Ny _) ?_)|(refine ax rfl 108 (.tmp 6) (.tmp 13) rfl w1.heap.size (Ks .u8 256 z).toArray (Ks .u8 256 (λ_=>0)).toArray rfl rfl hP (rC z) (by rw[bK,bK]) (iD _ _ _) ?_))
 intro w2 Ws er;obtain⟨g,hg⟩:∃g,w1.heap.size=g:=⟨_,rfl⟩;rw[hg] at Ws er ⊢;have st0:Hid (RD w G S I J g z w2):=⟨wI.out.only er (by omega),Ws.blk,lq.out.trans (er.below (by omega))⟩;have hgl:w.heap.size+2<=g:=by omega
 clear wI lq hP Ws er vY hsz hg Ny;go_wp2_with fail;refine(kO g z hzb _ st0.out.p (HT.out.below st0.out.bel (Nat.le_refl _))).mono ?_;rintro e w3 ⟨rfl,hb3⟩;have fg:=hid (st0.out.below hb3);clear st0 hb3;cases tY:xr z with
 |false=>
  have HX:Hid (jm G S I J z=false):=by show _=_;unfold jm;rw[tY];rfl
  clear tY;go_wp2_with fail
  go_ret2
  exact⟨_,_,rfl,HF.out _ HX.out,fg.out.bel⟩
 |true=>
 have zf:=hid tY;clear tY;have hc0:w3.cell? ⟨w.heap.size,0,none⟩=some (.int .i64 G):=fg.out.s.cell (i:=0) rfl;go_wp2_with fail;refine(gG g z (8*n) 252 _ 252 (by have:=DY.out;omega) rfl (by omega) (by omega) (by omega) _ fg.out.p).mono ?_;rintro e wx ⟨rfl,rfl⟩;cases Hm:de (λi=>z (8*n+i)) (252-8*n) with
 |false=>
  have HX:Hid (jm G S I J z=false):=by show _=_;unfold jm;rw[zf.out,KH.out,Hm];rfl
  clear Hm;go_wp2_with fail
  go_ret2
  exact⟨_,_,rfl,HF.out _ HX.out,fg.out.bel⟩
 |true=>
 have wK:Hid (jm G S I J z=(aD (λk=>hd z (4*k+3)==0) n&&jR G S I J n (rB z) (rI z) (rD z))):=by show _=_;unfold jm;rw[zf.out,KH.out,Hm];rfl
 clear Hm zf;have hmk:=λW=>dg (P:=Tryz.prog) 51 67 (kp 0 0 0) 3 24 Tryz.underlying51 jW .i64 .i64 n (by omega) (by omega) W
 have hn:=DY.out;rw[<-hn] at hmk;clear hn;have uK:=hid (az.made (m:=3) w3 (gK 0 0 0) rfl (by omega) n 67);have iF:Hid (RD w G S I J g z (w3.alloc (.cells (madeCells (kp 0 0 0).cells (n*3)) 67))):=fg.out.below ((Below.refl _ _).alloc (Nat.le_refl _) _);have sZ:g<w3.heap.size:=fg.out.p.lt;clear fg;go_wp2_with fail;obtain⟨q,hq⟩:∃q,w3.heap.size=q:=⟨_,rfl⟩;rw[hq] at uK sZ ⊢;have zi:Hid (az (w3.alloc (.cells (madeCells (kp 0 0 0).cells (n*3)) 67)) q 67 3 n (x2 z 0)):=uK.out.congr λi _=>rfl
 clear uK hmk hq;go_loopw [28] (λu wr=>∃k:Nat,k<=n/\u= .int .i64 (k:Int)/\Hid (aD (λk=>hd z (4*k+3)==0) k=true)/\RD w G S I J g z wr/\az wr q 67 3 n (x2 z k)) (λu _=>n-(intOf u).toNat)
 case atStart=>exact⟨0,by omega,rfl,rfl,iF.out,zi.out⟩
 case round=>
  clear iF zi hc0;obtain⟨k,hk,rfl,eJ,st,harr⟩:=hrel;have ST:=hid st;have KJ:=hid harr;clear st harr
  by_cases hlt:k<n
  ·go_wp2_with fail
   refine(gG g z (8*k+6) (8*k+8) _ _ (by omega) (by omega) (by omega) (by omega) (by omega) _ ST.out.p).mono ?_;rintro e wx ⟨rfl,rfl⟩;rw[show 8*k+8-(8*k+6)=2 by omega,Cj z hzb];cases FQ:(hd z (4*k+3)==0) with
   |false=>
    have HX:Hid (jm G S I J z=false):=by show _=_;rw[wK.out,bJ hlt FQ];rfl
    clear FQ;go_wp2_with fail
    go_ret2
    exact⟨_,_,rfl,HF.out _ HX.out,ST.out.bel⟩
   |true=>
    have zg:Hid (aD (λk=>hd z (4*k+3)==0) (k+1)=true):=by show(aD _ k&&(hd z (4*k+3)==0))=true;rw[eJ.out,FQ];rfl
    clear FQ eJ;go_wp2_with fail;refine(yz g z hzb k _ (by omega) (by omega) _ ST.out.p).mono ?_;rintro e w6 ⟨rfl,kx⟩;have eQ:=hid (ST.out.below kx);have G4:=hid (KJ.out.below kx);clear ST KJ kx;have gn:=G4.out.there hlt;have vO:=hid (G4.out.set hlt (vs:=[.int .i64 (rB z k),.int .i64 (rI z k),.int .i64 (rD z k)]) rfl (FC z k));go_wp2_with (first|(refine wpList_store_mid rfl 67 (.tmp 45) (.tmp 44) rfl q (k*3) (gK (rB z k) (rI z k) (rD z k)) rfl rfl gn Dm (RH _ _ _) ?_))
    have kF:=eQ.out.only vO.out.2 (by omega) (by omega);have Lq:az (w6.setCells q (k*3) [.int .i64 (rB z k),.int .i64 (rI z k),.int .i64 (rD z k)]) q 67 3 n (x2 z (k+1)):=vO.out.1.congr λi _=>by
     unfold x2
     by_cases e:i=k
     ·subst e;rw[if_pos rfl,if_pos (by omega)];rfl
     ·rw[if_neg e]
      by_cases e2:i<k
      ·rw[if_pos e2,if_pos (by omega)]
      ·rw[if_neg e2,if_neg (by omega)]
    generalize w6.setCells q (k*3) [.int .i64 (rB z k),.int .i64 (rI z k),.int .i64 (rD z k)]=w7 at*;clear eQ G4 vO gn;go_roundw
    case rel=>first|exact⟨k+1,by omega,by go_num,zg,kF,Lq⟩|exact⟨k+1,by omega,rfl,zg,kF,Lq⟩
    case measure=>simp[intOf];omega
  ·obtain rfl:k=n:=by omega
   have hs:=ST.out.s;have hrow:cY wr (some ⟨q,0,none⟩) 3 k (df (rB z) (rI z) (rD z)):=.inr ⟨q,0,rfl,(KJ.out.congr (f':=df (rB z) (rI z) (rD z)) λi hi=>by unfold x2;rw[if_pos hi]).bI⟩;have DX:=hid hrow;clear hrow;go_wp2_with (first|(refine ar rfl 23 (.tmp 2) rfl _ _ _ rfl hs Tryz.underlying23 rfl (by kernel_rfl) ?_))
   refine(uU G S I J HM.out _ k _ _ _ _ (by omega) _ DX.out).mono ?_;rintro e w8 ⟨rfl,nV⟩;cases QG:jR G S I J k (rB z) (rI z) (rD z) with
   |false=>
    have HX:Hid (jm G S I J z=false):=by show _=_;rw[wK.out,QG,Bool.and_false]
    have mT:Hid (Below w.heap.size w w8):=ST.out.bel.trans (nV.mono ST.out.bel.size);clear QG nV hs;go_wp2_with fail
    go_ret2
    exact⟨_,_,rfl,HF.out _ HX.out,mT.out⟩
   |true=>
    have HX:Hid (il G S I J z=true):=by show _=_;unfold il;rw[HM.out,wK.out,QG,eJ.out];rfl
    have mT:Hid (Below w.heap.size w w8):=ST.out.bel.trans (nV.mono ST.out.bel.size);have HMI:Hid (ah w8 w.heap.size 67 3 (.slice (some ⟨q,0,none⟩) k k) k (df (rB z) (rI z) (rD z))):=
     (((KJ.out.congr (f':=df (rB z) (rI z) (rD z)) λi hi=>by unfold x2;rw[if_pos hi]).below nV).P8 (rW _ _ _) (by omega) (by unfold maxLen;omega))
    clear QG nV hs;go_wp2_with fail
    go_ret2
    exact⟨_,_,rfl,.inl ⟨HX.out,rfl,by rw[KH.out];exact HMI.out⟩,mT.out⟩
def b8(a b c d e f g h:Bool):Nat:=a.toNat+2*b.toNat+4*c.toNat+8*d.toNat+16*e.toNat+32*f.toNat+64*g.toNat+128*h.toNat
def uz(P:Nat->Bool)(k:Nat):Nat:=b8 (P (8*k)) (P (8*k+1)) (P (8*k+2)) (P (8*k+3)) (P (8*k+4)) (P (8*k+5)) (P (8*k+6)) (P (8*k+7))
def bZ(P:Nat->Bool)(k:Nat):Int:=(uz P k:Nat)
theorem RF:∀a b c d e f g h:Bool,b8 a b c d e f g h<256:=by decide
theorem oI(P:Nat->Bool)(k:Nat):uz P k<256:=RF _ _ _ _ _ _ _ _
theorem AV(P:Nat->Bool):bm (bZ P):=λi=>by have:=oI P i;unfold bZ;omega
def m7(P:Nat->Bool)(i:Nat):Nat->Bool:=λj=>if j=i then true else P j
theorem an0:∀a b c d e f g h:Bool,(b8 a b c d e f g h&&&1)=1*a.toNat:=by decide
theorem an1:∀a b c d e f g h:Bool,(b8 a b c d e f g h&&&2)=2*b.toNat:=by decide
theorem an2:∀a b c d e f g h:Bool,(b8 a b c d e f g h&&&4)=4*c.toNat:=by decide
theorem an3:∀a b c d e f g h:Bool,(b8 a b c d e f g h&&&8)=8*d.toNat:=by decide
theorem an4:∀a b c d e f g h:Bool,(b8 a b c d e f g h&&&16)=16*e.toNat:=by decide
theorem an5:∀a b c d e f g h:Bool,(b8 a b c d e f g h&&&32)=32*f.toNat:=by decide
theorem an6:∀a b c d e f g h:Bool,(b8 a b c d e f g h&&&64)=64*g.toNat:=by decide
theorem an7:∀a b c d e f g h:Bool,(b8 a b c d e f g h&&&128)=128*h.toNat:=by decide
theorem BY(P:Nat->Bool)(k j:Nat)(hj:j<8):uz P k&&&2^j=2^j*(P (8*k+j)).toNat:=by
 unfold uz;have:j=0\/j=1\/j=2\/j=3\/j=4\/j=5\/j=6\/j=7:=by omega
 rcases this with rfl|rfl|rfl|rfl|rfl|rfl|rfl|rfl
 ·exact an0 _ _ _ _ _ _ _ _
 ·exact an1 _ _ _ _ _ _ _ _
 ·exact an2 _ _ _ _ _ _ _ _
 ·exact an3 _ _ _ _ _ _ _ _
 ·exact an4 _ _ _ _ _ _ _ _
 ·exact an5 _ _ _ _ _ _ _ _
 ·exact an6 _ _ _ _ _ _ _ _
 ·exact an7 _ _ _ _ _ _ _ _
theorem Ke(k:Nat):bZ (λ_=>false) k=0:=rfl
theorem DR(i:Nat)(hi:i<2048)(w:World):Calls Tryz.prog 45 #[.int .i64 (i:Int)] w λe w'=>e= .returned (.bool true)/\w=w':=by
 have h1:(i:Int)<2048:=by omega
 have h2:decide ((i:Int)<2048)=true:=decide_eq_true h1;have h0:(0:Int)<=(i:Int):=by omega
 have h3:decide ((0:Int)<=(i:Int))=true:=decide_eq_true h0;go_enter Tryz.func45,Tryz.ntmps45;go_wp2_with fail;go_ret;exact⟨rfl,rfl⟩
theorem Mb(j:Nat)(hj:j<8):(2:Int)^j%256=((2^j:Nat):Int):=by
 have:j=0\/j=1\/j=2\/j=3\/j=4\/j=5\/j=6\/j=7:=by omega
 rcases this with rfl|rfl|rfl|rfl|rfl|rfl|rfl|rfl<;>rfl
theorem kZ(i:Nat)(hi:i<2048)(w:World):Calls Tryz.prog 46 #[.int .i64 (i:Int)] w λe w'=>e= .returned (.int .u8 ((2^(i%8):Nat):Int))/\w=w':=by
 have h0:(i:Int).tmod 8=(i:Int)%8:=Int.tmod_eq_emod_of_nonneg (by omega);have hq:=Mb (i%8) (Nat.mod_lt _ (by decide));have HQ:=hid hq;clear hq;go_enter Tryz.func46,Tryz.ntmps46;go_wp2_with fail;go_ret;exact⟨by rw[<-HQ.out];rfl,rfl⟩
theorem vx(i:Nat):2^(i%8)<256:=by
 have:i%8=0\/i%8=1\/i%8=2\/i%8=3\/i%8=4\/i%8=5\/i%8=6\/i%8=7:=by omega
 rcases this with h|h|h|h|h|h|h|h<;>(rw[h];decide)
def kQ(used size:Nat)(i:Nat):Bool:=decide (i<used)||(decide (size<=i)&&decide (i<2048))
def preB(n:Nat)(i:Nat):Bool:=decide (i<n)
theorem nh(g:Nat)(l:Nat->Int)(k:Nat)(K v:Int)(hK:K=2*(k:Int))(hk:k<128)(hv:0<=v)(hv2:v<=65535)(w:World)(hB:aQ w g T 256 (hz l)):
  Calls Tryz.prog 97 #[.slice (some ⟨g,0,none⟩) 256 256,.int .i64 K,.int .u32 v] w λe w'=>e= .returned (.bool true)/\aQ w' g T 256 (hz (upd l k v))/\an g w w':=by
 refine(qM g 0 256 256 K v (hz l) w (by omega) (by omega) (by omega) hv hv2 hB.bI (oB l) (hB.soft 0 256)).mono λe w' ⟨he,hp⟩=>⟨he,?_,hp.only⟩
 rw[show 0+K.toNat=2*k by omega] at hp;exact(hB.kn hp).congr λi _=>MV l k v i
theorem EX(g:Nat)(l:Nat->Int)(k:Nat)(K v:Int)(hK:K=2*(k:Int))(hk:k+1<128)(hv:0<=v)(hv2:v<4294967296)(w:World)(hB:aQ w g T 256 (hz l)):
  Calls Tryz.prog 71 #[.slice (some ⟨g,0,none⟩) 256 256,.int .i64 K,.int .u32 v] w λe w'=>e= .returned (.bool true)/\aQ w' g T 256 (hz (qw l k v))/\an g w w':=by
 refine(cU g 0 256 256 K v (hz l) w (by omega) (by omega) (by omega) hv hv2 hB.bI (oB l) (hB.soft 0 256)).mono λe w' ⟨he,hp⟩=>⟨he,?_,hp.only⟩
 rw[show 0+K.toNat=2*k by omega] at hp;exact(hB.kn hp).congr λi _=>Jk l k v i
theorem pg{B:Nat}{a:World}(h:Below B a w)(n:Nat):Below B a (w.drewN n):=ie h n
theorem du(z:Nat->Int)(hzb:bm z)(k:Nat)(K:Int)(hK:K=2*(k:Int))(hk:k<128)(w:World):
  Calls Tryz.prog 146 #[aL z,.int .i64 K] w λe w'=>e= .returned (.int .i64 (hd z k))/\Below w.heap.size w w':=by
 have hB:=aQ.new w 32 256 z;have hL:Hid (Below w.heap.size w (w.alloc (.cells (Ks .u8 256 z).toArray 32))):=(Below.refl _ _).alloc (Nat.le_refl _) _;have hsa:=λW=>a7 w.heap.size 0 W
 have hgt:=mn w.heap.size 0 256 256 K z _ (by omega) (by omega) (by omega) hB.bI hzb;rw[show K.toNat=2*k by omega] at hgt;have hb:=oD hzb (2*k);have HG:=hid hgt;have HD:Hid (hd z k=g16 z (2*k)):=rfl;clear hgt hK hB;generalize g16 z (2*k)=x at*;go_enter Tryz.func146,Tryz.ntmps146;go_wp2_with fail;refine HG.out.mono ?_;rintro e w1 ⟨rfl,m,rfl⟩;have hL2:=pg hL.out m;clear HG hL;go_wp2_with fail;go_ret;exact⟨by rw[HD.out];rfl,hL2⟩
theorem fV(z:Nat->Int)(hzb:bm z)(k:Nat)(K:Int)(hK:K=(k:Int))(hk:k+4<=256)(w:World):
  Calls Tryz.prog 145 #[aL z,.int .i64 K] w λe w'=>e= .returned (.int .u32 (b9 z k))/\Below w.heap.size w w':=by
 have hB:=aQ.new w 32 256 z;have hL:Hid (Below w.heap.size w (w.alloc (.cells (Ks .u8 256 z).toArray 32))):=(Below.refl _ _).alloc (Nat.le_refl _) _;have hsa:=λW=>a7 w.heap.size 0 W
 have hgt:=fh w.heap.size 0 256 256 K z _ (by omega) (by omega) (by omega) hB.bI hzb;rw[show K.toNat=k by omega] at hgt;have HG:=hid hgt;clear hgt hK hB;go_enter Tryz.func145,Tryz.ntmps145;go_wp2_with fail;refine HG.out.mono ?_;rintro e w1 ⟨rfl,m,rfl⟩;have hL2:=pg hL.out m;clear HG hL;go_wp2_with fail;go_ret;exact⟨rfl,hL2⟩
structure SeC(w:World)(z:Nat->Int)(j:Nat)(W:World):Prop where
 b:aQ W w.heap.size 32 256 (if j<=1 then z else lS z)
 r:aQ W (w.heap.size+1) 32 256 (λ_=>0)
 bel:Below w.heap.size w W
theorem oO(z:Nat->Int)(hzb:bm z)(w:World):
  Calls Tryz.prog 98 #[aL z] w λe w'=>e= .returned (aL (lS z))/\Below w.heap.size w w':=by
 have hal:=cJ;have hB:aQ ((w.alloc (.cells (Ks .u8 256 z).toArray 32)).alloc (.cells (Ks .u8 256 (λ_=>0)).toArray 32)) w.heap.size 32 256 z:=(aQ.new _ _ _ _).alloc _;have hR:aQ ((w.alloc (.cells (Ks .u8 256 z).toArray 32)).alloc (.cells (Ks .u8 256 (λ_=>0)).toArray 32)) (w.heap.size+1) 32 256 (λ_=>0):=by
  have:=aQ.new (w.alloc (.cells (Ks .u8 256 z).toArray 32)) 32 256 (λ_=>0);simp only[World.size_alloc] at this;exact this
 have hL:Below w.heap.size w ((w.alloc (.cells (Ks .u8 256 z).toArray 32)).alloc (.cells (Ks .u8 256 (λ_=>0)).toArray 32)):=((Below.refl _ _).alloc (Nat.le_refl _) _).alloc (by simp) _;have hsa:=λW=>a7 w.heap.size 0 W
 have M6:=λW=>bU w.heap.size 0 0 252 0 252 rfl rfl (by omega) (by omega) (by omega) W
 have hcb:=BT z 252;go_enter Tryz.func98,Tryz.ntmps98;go_wp2_with fail;refine Mv.bs (SeC w z) 0 (by kernel_rfl) (by kernel_rfl) (by kernel_rfl) ⟨hB,hR,hL.drew⟩ ?_;clear hB hR hL;intro hne
 (refine Mv.aO 2 (by kernel_rfl) ?_;simp only[List.take,List.drop])
 iterate 2 go_big_quiet_step (fail)
 refine wpQuiet_nil ?_;refine Mv.bR rfl rfl 72 #[.slice (some ⟨w.heap.size,0,none⟩) 252 256] (.int .u32 (jZ z 252)) 1 (λW=>by kernel_rfl) (λW h=> ?c1) ?_
 case c1=>
  refine(iq (some ⟨w.heap.size,0,none⟩) 252 256 z W (by omega) (.inr ⟨_,_,rfl,h.b.bI.take 252 (by omega)⟩) hzb).mono ?_;rintro e w6 ⟨rfl,rfl⟩;exact⟨rfl,h.b,h.r,h.bel⟩
 refine Mv.frame ?_;refine Mv.bR rfl rfl 71 #[.slice (some ⟨w.heap.size,0,none⟩) 256 256,.int .i64 252,.int .u32 (jZ z 252)] (.bool true) 2 (λW=>by kernel_rfl) (λW h=> ?c2) ?_
 case c2=>
  refine(cU w.heap.size 0 256 256 252 (jZ z 252) z W (by omega) (by omega) (by omega) hcb.1 hcb.2 h.b.bI hzb (h.b.soft 0 256)).mono ?_;rintro e w6 ⟨rfl,hp⟩;exact⟨rfl,h.b.kn hp,h.r.only hp.only (by omega),h.bel.trans (hp.only.below (Nat.le_refl _))⟩
 refine Mv.frame ?_;refine Mv.bu ?_;rintro w6 ⟨mb,JJ,Tl⟩;rw[if_neg (by decide)] at mb;clear hne hsa M6;go_wp2_with (first|(refine fT rfl (.tmp 1) rfl w.heap.size (lS z) rfl mb ?_)|(refine a8 rfl (.tmp 2) (.tmp 7) rfl (w.heap.size+1) (lS z) _ rfl rfl JJ ?_))
 intro w7 OZ Nd;go_wp2_with fail;exact bodyPost_ret (iO rfl _ _ (w.heap.size+1) _ rfl OZ) rfl ⟨rfl,Tl.trans (Nd.below (by omega))⟩
def wP(P:Nat->Bool)(i:Nat):Nat->Nat
 |0=>0
 |t+1=>2*wP P i t+(P (8*i+(7-t))).toNat
theorem F5(P:Nat->Bool)(i:Nat):∀t,wP P i t<2^t
 |0=>by show 0<2^0;decide
 |t+1=>by
  have h:=F5 P i t;have hb:(P (8*i+(7-t))).toNat<=1:=Bool.toNat_le _;show 2*wP P i t+(P (8*i+(7-t))).toNat<2^(t+1);rw[Nat.pow_succ];omega
theorem Jy(P:Nat->Bool)(i:Nat){t:Nat}(ht:t<=8):wP P i t<256:=by
 have h1:=F5 P i t;have h2:2^t<=2^8:=Nat.pow_le_pow_right (by decide) ht;omega
theorem QS(P:Nat->Bool)(i:Nat):wP P i 8=uz P i:=by
 unfold uz b8;show 2*(2*(2*(2*(2*(2*(2*(2*0+(P (8*i+7)).toNat)+(P (8*i+6)).toNat)+(P (8*i+5)).toNat)+(P (8*i+4)).toNat)+(P (8*i+3)).toNat)+(P (8*i+2)).toNat)+(P (8*i+1)).toNat)+(P (8*i+0)).toNat=_;rw[Nat.add_zero (8*i)];omega
def kr(P:Nat->Bool)(i:Nat):List Value:=[.bool (P i)]
theorem J9(P:Nat->Bool)(i:Nat):(kr P i).length=1:=rfl
def uB(P:Nat->Bool)(k j:Nat):Int:=if j<k then bZ P j else 0
structure Xc(w:World)(P:Nat->Bool)(b off k:Nat)(W:World):Prop where
 r:aQ W w.heap.size 32 256 (λ_=>0)
 bk:aQ W (w.heap.size+1) 32 256 (uB P k)
 l:cY W (some ⟨b,off,none⟩) 1 2048 (kr P)
 bel:Below w.heap.size w W
theorem RE{W:World}{b off:Nat}{P:Nat->Bool}(h:cY W (some ⟨b,off,none⟩) 1 2048 (kr P)){d:Nat}(hd:d<2048):W.cell? ⟨b,off+d,none⟩=some (.bool (P d)):=by
 rcases h with h|⟨b',off',e,h⟩
 ·omega
 ·injection e with e;injection e with e1 e2;subst e1 e2
  have:=h d hd 0 _ rfl;rwa[Nat.mul_one,Nat.add_zero] at this
theorem qW(P:Nat->Bool)(la:Option Addr)(cap:Nat)(w:World)(hl:cY w la 1 2048 (kr P))(Lk:∀b off,la=some ⟨b,off,none⟩->b<w.heap.size):
  Calls Tryz.prog 59 #[.slice la 2048 cap] w λe w'=>e= .returned (aL (bZ P))/\Below w.heap.size w w':=by
 obtain⟨b,off,rfl⟩:∃b off,la=some ⟨b,off,none⟩:=by
  rcases hl with h|⟨b,off,e,_⟩
  ·omega
  ·exact⟨b,off,e⟩
 have rL:=Lk b off rfl;have hal:=cJ;have st:Hid (Xc w P b off 0 ((w.alloc (.cells (Ks .u8 256 (λ_=>0)).toArray 32)).alloc (.cells (Ks .u8 256 (λ_=>0)).toArray 32))):=by
  refine⟨(aQ.new w _ _ _).alloc _,?_,?_,((Below.refl _ _).alloc (Nat.le_refl _) _).alloc (by simp) _⟩
  ·have:=aQ.new (w.alloc (.cells (Ks .u8 256 (λ_=>0)).toArray 32)) 32 256 (λ_=>0)
   simp only[World.size_alloc] at this;exact this.congr λi _=>rfl
  ·exact hl.below (by intro e;cases e) (((Below.refl w.heap.size w).alloc (Nat.le_refl _) _).alloc (by simp) _)
 clear hl Lk;go_enter Tryz.func59,Tryz.ntmps59;go_wp2_with fail;go_loopw [4,5,6] (λu _ _ wr=>∃k:Nat,u= .int .i64 (k:Int)/\k<=256/\Xc w P b off k wr) (λu _ _ _=>256-(intOf u).toNat)
 case atStart=>exact⟨0,rfl,Nat.zero_le _,st.out⟩
 case round=>
  clear st;obtain⟨k,rfl,hk,st⟩:=hrel;have ST:=hid st;clear st
  by_cases hlt:k<256
  ·have hlt':(k:Int)<256:=by omega
   have k0:(0:Int)<=(k:Int):=by omega
   go_wp2_with fail;go_loopw [5,6] (λx u wq=>∃(t:Nat),x= .int .i64 (wP P k t:Int)/\u= .int .i64 (7-(t:Int))/\t<=8/\wq=wr) (λ_ u _=>(intOf u+1).toNat)
   case atStart=>exact⟨0,rfl,rfl,Nat.zero_le _,rfl⟩
   case round=>
    obtain⟨t,rfl,rfl,ht,rfl⟩:=hrel
    by_cases jX:t<8
    ·obtain⟨q,hq⟩:∃q:Nat,7-(t:Int)=(q:Int):=⟨7-t,by omega⟩
     have hq':q=7-t:=by omega
     have q0:(0:Int)<=(q:Int):=by omega
     obtain⟨D,hD⟩:∃D:Nat,8*(k:Int)+(q:Int)=(D:Int):=⟨8*k+q,by omega⟩;have WC:D=8*k+(7-t):=by omega
     have hD2:D<2048:=by omega
     have hD3:(D:Int)<2048:=by omega
     have D0:(0:Int)<=(D:Int):=by omega
     have cD:=RE ST.out.l hD2;have HX:=Jy P k (t:=t) (by omega);have HN:Hid (wP P k (t+1)=2*wP P k t+(P D).toNat):=by show wP P k (t+1)=_;rw[WC];rfl
     rw[hq];obtain⟨X,hX⟩:∃X,X=wP P k t:=⟨_,rfl⟩;rw[<-hX] at HX HN;rw[<-hX];have hq1:Hid (7-((t+1:Nat):Int)=(q:Int)-1):=by show _=_;omega
     have Hh:Hid ((q:Int)=7-(t:Int)):=hq.symm;have hD7:=hid WC;clear hX hq hq' WC;cases hP:P D with
     |true=>
      rw[hP] at cD;have hn:Hid (2*(X:Int)+1=(wP P k (t+1):Int)):=by show _=_;rw[HN.out,hP,Bool.toNat_true];omega
      clear hP HN;go_wp2_with fail;go_roundw
      case rel=>exact⟨t+1,by rw[<-hn.out],by rw[hq1.out],by omega,trivial⟩
      case measure=>simp[intOf]
     |false=>
      rw[hP] at cD;have hn:Hid (2*(X:Int)=(wP P k (t+1):Int)):=by show _=_;rw[HN.out,hP,Bool.toNat_false];omega
      clear hP HN;go_wp2_with fail;go_roundw
      case rel=>exact⟨t+1,by rw[<-hn.out],by rw[hq1.out],by omega,trivial⟩
      case measure=>simp[intOf]
    ·obtain rfl:t=8:=by omega
     rw[QS];have hB:=oI P k;obtain⟨X,hX⟩:∃X,X=uz P k:=⟨_,rfl⟩;rw[<-hX] at hB;rw[<-hX];have HX:=hid hX;clear hX;have hb:=ST.out.bk;have c9:wr.cell? ⟨w.heap.size+1,k,none⟩=some (.int .u8 0):=by
      have:=hb.bI k hlt;rw[Nat.zero_add] at this;rw[this];unfold uB;rw[if_neg (by omega)]
     have f9:wr.frozen? ⟨w.heap.size+1,k,none⟩=false:=ag hb k;have ho:=an.setCell wr ⟨w.heap.size+1,k,none⟩ (.int .u8 (X:Int));have hl2:Below w.heap.size w wr:=ST.out.bel;have cf:Hid (Xc w P b off (k+1) (wr.setCell ⟨w.heap.size+1,k,none⟩ (.int .u8 (X:Int)))):=by
      refine⟨ST.out.r.only ho (by show _≠w.heap.size+1;omega),(hb.setCell k (X:Int) hlt).congr λj hj=> ?_,?_,hl2.trans (ho.below (by show _<=w.heap.size+1;omega))⟩
      ·unfold uB over
       show(if k<=j/\j<k+1 then(X:Int) else(if j<k then bZ P j else 0))=if j<k+1 then bZ P j else 0
       by_cases e:j=k
       ·rw[if_pos (by omega),if_pos (by omega),HX.out,e];rfl
       ·rw[if_neg (by omega)]
        by_cases e2:j<k
        ·rw[if_pos e2,if_pos (by omega)]
        ·rw[if_neg e2,if_neg (by omega)]
      ·rcases ST.out.l with h|⟨b',off',e,h⟩
       ·omega
       ·injection e with e;injection e with e1 e2;subst e1 e2
        exact .inr ⟨b,off,rfl,λi hi j v hj=>(World.cell?_of_block (ho.block b (by show b≠w.heap.size+1;omega))).trans (h i hi j v hj)⟩
     clear ho hl2 hb ST;go_wp2_with fail;go_roundw
     case rel=>(try((repeat apply Exists.intro);refine⟨?_,rfl⟩));exact⟨k+1,by first|rfl|go_num,by omega,cf.out⟩
     case measure=>simp[intOf];omega
  ·obtain rfl:k=256:=by omega
   have hb:aQ wr (w.heap.size+1) 32 256 (bZ P):=ST.out.bk.congr λj hj=>by unfold uB;rw[if_pos hj]
   have hr:=ST.out.r;go_wp2_with (first|(refine dD rfl (.tmp 3) rfl (w.heap.size+1) _ rfl hb ?_)|(refine a8 rfl (.tmp 2) (.tmp 30) rfl w.heap.size (bZ P) _ rfl rfl hr ?_))
   intro w7 OZ Nd;go_wp2_with fail;exact bodyPost_ret (iO rfl _ _ w.heap.size _ rfl OZ) rfl ⟨rfl,ST.out.bel.trans (Nd.below (Nat.le_refl _))⟩
structure zo(w:World)(G S I J O:Int)(g:Nat)(l:Nat->Int)(k:Nat)(v:Int)(j:Nat)(W:World):Prop where
 s:At W w.heap.size 47 (aj G S I J O)
 r:aQ W (w.heap.size+1) 32 256 (λ_=>0)
 b:aQ W g 32 256 (hz (if j=0 then l else upd l k v))
 bel:Below w.heap.size w W
structure WrD(w:World)(G S I J O:Int)(g:Nat)(l:Nat->Int)(j:Nat)(W:World):Prop where
 s:At W w.heap.size 47 (aj G S I J O)
 r:aQ W (w.heap.size+1) 32 256 (λ_=>0)
 b:aQ W g 32 256 (hz (if j=0 then l else qw l 8 O))
 bel:Below w.heap.size w W
theorem oP(G S I J O:Int)(hO:0<=O/\O<4294967296)(w:World):
  Calls Tryz.prog 60 #[gu G S I J O] w λe w'=>e= .returned (.tuple #[aL (n7 G S I J O),.int .i64 (xq G S I J O)])/\Below w.heap.size w w':=by
 have hal:=cJ;obtain⟨W,hW⟩:∃W,W=(w.alloc (.cells (aj G S I J O) 47)).alloc (.cells (Ks .u8 256 (λ_=>0)).toArray 32):=⟨_,rfl⟩;have hS:At W w.heap.size 47 (aj G S I J O):=by rw[hW];exact(At.new w _ _).alloc _
 have hR:aQ W (w.heap.size+1) 32 256 (λ_=>0):=by
  rw[hW];have:=aQ.new (w.alloc (.cells (aj G S I J O) 47)) 32 256 (λ_=>0);simp only[World.size_alloc] at this;exact this
 have hL:Below w.heap.size w W:=by rw[hW];exact((Below.refl _ _).alloc (Nat.le_refl _) _).alloc (by simp) _
 have HW:=hid hW;clear hW;go_enter Tryz.func60,Tryz.ntmps60;have yw:At ((w.alloc (.cells (aj G S I J O) 47)).alloc (.cells (Ks .u8 256 (λ_=>0)).toArray 32)) w.heap.size 47 (aj G S I J O):=(At.new w _ _).alloc _;have hg0:=yw.lH;go_wp2_with (first|(refine mY rfl 23 (.tmp 5) rfl w.heap.size 0 (aa G S I J).toList _ rfl hg0 Tryz.underlying23 rfl (by kernel_rfl) ?_))
 rw[<-HW.out];clear HW yw hg0;refine(dY G S I J W).mono ?_;rintro e w1 ⟨rfl,hb1⟩;have hS1:=hS.below hb1 hS.lt;have s6:=hR.below hb1 hR.lt;have fR:Below w.heap.size w w1:=hL.trans (hb1.mono hL.size);clear hS hR hL hb1;cases hm:aM G S I J with
 |false=>
  have HO:Hid (qy G S I J O=false/\xq G S I J O=50):=by show _/\_;unfold qy xq;rw[hm];exact⟨rfl,rfl⟩
  clear hm;go_wp2_with (first|(refine a8 rfl (.tmp 2) (.tmp 9) rfl (w.heap.size+1) (λ_=>0) _ rfl rfl s6 ?_))
  intro w2 kV er;go_wp2_with fail;exact bodyPost_ret (bV rfl _ _ (w.heap.size+1) _ rfl kV) rfl ⟨by rw[n7,HO.out.1,HO.out.2];rfl,fR.trans (er.below (by omega))⟩
 |true=>
 have HM:=hid hm;obtain⟨p1,p2,p3,p4,p5,p6,p7,p8,p9,Uu,Ut⟩:=(aX G S I J).1 hm;have BI:=Cf p1 p2 p5 p6;have hw:IntKind.i64.wrap (G*I)=G*I:=IntWalk.i64_in _ (by omega);have Jq:Hid (pX G S I J=G*I):=by show _=_;unfold pX;rw[hm];rfl
 have hwo:IntKind.i64.wrap O=O:=IntWalk.i64_in _ (by omega);have c0:w1.cell? ⟨w.heap.size,0,none⟩=some (.int .i64 G):=hS1.cell (i:=0) rfl;have c2:w1.cell? ⟨w.heap.size,2,none⟩=some (.int .i64 I):=hS1.cell (i:=2) rfl;have c4:w1.cell? ⟨w.heap.size,4,none⟩=some (.int .u32 O):=hS1.cell (i:=4) rfl;clear hm p7 Uu Ut
 by_cases ho:O<=G*I
 rotate_left
 ·have HO:Hid (qy G S I J O=false/\xq G S I J O=2):=by
   show _/\_;unfold qy xq;rw[HM.out,Jq.out,if_pos rfl,if_neg ho,decide_eq_false ho];exact⟨rfl,rfl⟩
  have hq:decide (G*I<O)=true:=by rw[decide_eq_true_eq];omega
  clear ho;go_wp2_with (first|(refine a8 rfl (.tmp 2) (.tmp 21) rfl (w.heap.size+1) (λ_=>0) _ rfl rfl s6 ?_))
  intro w3 DG nU;go_wp2_with fail;exact bodyPost_ret (bV rfl _ _ (w.heap.size+1) _ rfl DG) rfl ⟨by rw[n7,HO.out.1,HO.out.2];rfl,fR.trans (nU.below (by omega))⟩
 have hq:decide (G*I<O)=false:=by rw[decide_eq_false_iff_not];omega
 have HO:Hid (qy G S I J O=true/\xq G S I J O=0):=by
  show _/\_;unfold qy xq;rw[HM.out,Jq.out,if_pos rfl,if_pos ho,decide_eq_true ho];exact⟨rfl,rfl⟩
 clear ho;have VK:=s6.lt;obtain⟨g,hg⟩:∃g,g=w1.heap.size:=⟨_,rfl⟩;have hg2:w.heap.size+2<=g:=by omega
 have st0:Hid (zo w G S I J O g (λ_=>0) 0 0 0 (w1.alloc (.cells (Ks .u8 256 (λ_=>0)).toArray 32))):=
  ⟨hS1.alloc _,s6.alloc _,by rw[hg];exact(aQ.new w1 _ _ _).congr λi _=>(BE i).symm,fR.alloc fR.size _⟩
 have hsa:=λW=>a7 g 0 W
 have Qs:=hsa;rw[hg] at Qs;clear hS1 s6 fR VK;go_wp2_with fail;rw[<-hg];clear hg Qs hq c0 c2 c4 hw BI;have e1:G%4294967296=G:=by omega
 have e2:S%4294967296=S:=by omega
 have e3:I%4294967296=I:=by omega
 have e4:J%4294967296=J:=by omega
 refine(EX g _ 0 0 827216465 rfl (by omega) (by omega) (by omega) _ st0.out.b).mono ?_;rintro e w2 ⟨rfl,yx,er⟩;have eR:Hid (zo w G S I J O g (qw (λ_=>0) 0 827216465) 0 0 0 w2):=⟨st0.out.s.only er (by omega),st0.out.r.only er (by omega),yx,st0.out.bel.trans (er.below (by omega))⟩;clear st0 yx er;go_wp2_with fail;refine(nh g _ 2 4 1 rfl (by omega) (by omega) (by omega) _ eR.out.b).mono ?_;rintro e w3 ⟨rfl,Hq,nU⟩;have eC:Hid (zo w G S I J O g (upd (qw (λ_=>0) 0 827216465) 2 1) 0 0 0 w3):=⟨eR.out.s.only nU (by omega),eR.out.r.only nU (by omega),Hq,eR.out.bel.trans (nU.below (by omega))⟩;clear eR Hq nU;go_wp2_with fail;refine(nh g _ 3 6 256 rfl (by omega) (by omega) (by omega) _ eC.out.b).mono ?_;rintro e w4 ⟨rfl,hB4,kv⟩;have fg:zo w G S I J O g (upd (upd (qw (λ_=>0) 0 827216465) 2 1) 3 256) 0 0 0 w4:=⟨eC.out.s.only kv (by omega),eC.out.r.only kv (by omega),hB4,eC.out.bel.trans (kv.below (by omega))⟩;clear eC hB4 kv;obtain⟨l3,Ll⟩:∃l,l=upd (upd (qw (λ_=>0) 0 827216465) 2 1) 3 256:=⟨_,rfl⟩;rw[<-Ll] at fg;have Ss:=hid Ll;clear Ll;have hf4:∀x:aT (λW=>∃j,zo w G S I J O g l3 4 G j W),x.W.cell? ⟨w.heap.size,0,none⟩=some (.int .i64 G):=λx=>by obtain⟨j,h⟩:=x.h;exact h.s.cell (i:=0) rfl
 go_wp2_with fail;refine Mv.bs (zo w G S I J O g l3 4 G) 0 (by kernel_rfl) (by kernel_rfl) (by kernel_rfl) ⟨fg.s,fg.r,fg.b,fg.bel.drew⟩ ?_;clear fg;intro hne
 (refine Mv.aO 5 (by kernel_rfl) ?_;simp only[List.take,List.drop])
 iterate 5 go_big_quiet_step (fail)
 refine wpQuiet_nil ?_;refine Mv.bR rfl rfl 97 #[.slice (some ⟨g,0,none⟩) 256 256,.int .i64 8,.int .u32 G] (.bool true) 1 (λW=>by kernel_rfl) (λW h=> ?c4) ?_
 case c4=>
  refine(nh g l3 4 8 G rfl (by omega) (by omega) (by omega) W h.b).mono ?_;rintro e w6 ⟨rfl,mb,jD⟩;exact⟨rfl,h.s.only jD (by omega),h.r.only jD (by omega),mb,h.bel.trans (jD.below (by omega))⟩
 refine Mv.frame ?_;refine Mv.bu ?_;intro Ma EH;have iF:zo w G S I J O g (upd l3 4 G) 0 0 0 Ma:=⟨EH.s,EH.r,EH.b,EH.bel⟩;clear hne hf4 EH;obtain⟨l4,hl4⟩:∃l,l=upd l3 4 G:=⟨_,rfl⟩;rw[<-hl4] at iF;have Pu:=hid hl4;clear hl4;have hf5:∀x:aT (λW=>∃j,zo w G S I J O g l4 5 S j W),x.W.cell? ⟨w.heap.size,1,none⟩=some (.int .i64 S):=λx=>by obtain⟨j,h⟩:=x.h;exact h.s.cell (i:=1) rfl
 go_wp2_with fail;refine Mv.bs (zo w G S I J O g l4 5 S) 0 (by kernel_rfl) (by kernel_rfl) (by kernel_rfl) ⟨iF.s,iF.r,iF.b,iF.bel.drew⟩ ?_;clear iF;intro hne
 (refine Mv.aO 5 (by kernel_rfl) ?_;simp only[List.take,List.drop])
 iterate 5 go_big_quiet_step (fail)
 refine wpQuiet_nil ?_;refine Mv.bR rfl rfl 97 #[.slice (some ⟨g,0,none⟩) 256 256,.int .i64 10,.int .u32 S] (.bool true) 1 (λW=>by kernel_rfl) (λW h=> ?c5) ?_
 case c5=>
  refine(nh g l4 5 10 S rfl (by omega) (by omega) (by omega) W h.b).mono ?_;rintro e w6 ⟨rfl,mb,jD⟩;exact⟨rfl,h.s.only jD (by omega),h.r.only jD (by omega),mb,h.bel.trans (jD.below (by omega))⟩
 refine Mv.frame ?_;refine Mv.bu ?_;intro PG EG;have eB:zo w G S I J O g (upd l4 5 S) 0 0 0 PG:=⟨EG.s,EG.r,EG.b,EG.bel⟩;clear hne hf5 EG;obtain⟨l5,Ju⟩:∃l,l=upd l4 5 S:=⟨_,rfl⟩;rw[<-Ju] at eB;have HL5:=hid Ju;clear Ju;have hf6:∀x:aT (λW=>∃j,zo w G S I J O g l5 6 I j W),x.W.cell? ⟨w.heap.size,2,none⟩=some (.int .i64 I):=λx=>by obtain⟨j,h⟩:=x.h;exact h.s.cell (i:=2) rfl
 go_wp2_with fail;refine Mv.bs (zo w G S I J O g l5 6 I) 0 (by kernel_rfl) (by kernel_rfl) (by kernel_rfl) ⟨eB.s,eB.r,eB.b,eB.bel.drew⟩ ?_;clear eB;intro hne
 (refine Mv.aO 5 (by kernel_rfl) ?_;simp only[List.take,List.drop])
 iterate 5 go_big_quiet_step (fail)
 refine wpQuiet_nil ?_;refine Mv.bR rfl rfl 97 #[.slice (some ⟨g,0,none⟩) 256 256,.int .i64 12,.int .u32 I] (.bool true) 1 (λW=>by kernel_rfl) (λW h=> ?c6) ?_
 case c6=>
  refine(nh g l5 6 12 I rfl (by omega) (by omega) (by omega) W h.b).mono ?_;rintro e w6 ⟨rfl,mb,jD⟩;exact⟨rfl,h.s.only jD (by omega),h.r.only jD (by omega),mb,h.bel.trans (jD.below (by omega))⟩
 refine Mv.frame ?_;refine Mv.bu ?_;intro Ir EF;have eQ:zo w G S I J O g (upd l5 6 I) 0 0 0 Ir:=⟨EF.s,EF.r,EF.b,EF.bel⟩;clear hne hf6 EF;obtain⟨l6,Vv⟩:∃l,l=upd l5 6 I:=⟨_,rfl⟩;rw[<-Vv] at eQ;have HL6:=hid Vv;clear Vv;have hf7:∀x:aT (λW=>∃j,zo w G S I J O g l6 7 J j W),x.W.cell? ⟨w.heap.size,3,none⟩=some (.int .i64 J):=λx=>by obtain⟨j,h⟩:=x.h;exact h.s.cell (i:=3) rfl
 go_wp2_with fail;refine Mv.bs (zo w G S I J O g l6 7 J) 0 (by kernel_rfl) (by kernel_rfl) (by kernel_rfl) ⟨eQ.s,eQ.r,eQ.b,eQ.bel.drew⟩ ?_;clear eQ;intro hne
 (refine Mv.aO 5 (by kernel_rfl) ?_;simp only[List.take,List.drop])
 iterate 5 go_big_quiet_step (fail)
 refine wpQuiet_nil ?_;refine Mv.bR rfl rfl 97 #[.slice (some ⟨g,0,none⟩) 256 256,.int .i64 14,.int .u32 J] (.bool true) 1 (λW=>by kernel_rfl) (λW h=> ?c7) ?_
 case c7=>
  refine(nh g l6 7 14 J rfl (by omega) (by omega) (by omega) W h.b).mono ?_;rintro e w6 ⟨rfl,mb,jD⟩;exact⟨rfl,h.s.only jD (by omega),h.r.only jD (by omega),mb,h.bel.trans (jD.below (by omega))⟩
 refine Mv.frame ?_;refine Mv.bu ?_;intro OH EE;have kF:zo w G S I J O g (upd l6 7 J) 0 0 0 OH:=⟨EE.s,EE.r,EE.b,EE.bel⟩;clear hne hf7 EE;obtain⟨l7,Vu⟩:∃l,l=upd l6 7 J:=⟨_,rfl⟩;rw[<-Vu] at kF;have HL7:=hid Vu;clear Vu;have Td:∀x:aT (λW=>∃j,WrD w G S I J O g l7 j W),x.W.cell? ⟨w.heap.size,4,none⟩=some (.int .u32 O):=λx=>by obtain⟨j,h⟩:=x.h;exact h.s.cell (i:=4) rfl
 go_wp2_with fail;refine Mv.bs (WrD w G S I J O g l7) 0 (by kernel_rfl) (by kernel_rfl) (by kernel_rfl) ⟨kF.s,kF.r,kF.b,kF.bel.drew⟩ ?_;clear kF;intro hne
 (refine Mv.aO 3 (by kernel_rfl) ?_;simp only[List.take,List.drop])
 iterate 3 go_big_quiet_step (fail)
 refine wpQuiet_nil ?_;refine Mv.bR rfl rfl 71 #[.slice (some ⟨g,0,none⟩) 256 256,.int .i64 16,.int .u32 O] (.bool true) 1 (λW=>by kernel_rfl) (λW h=> ?c8) ?_
 case c8=>
  refine(EX g l7 8 16 O rfl (by omega) hO.1 hO.2 W h.b).mono ?_;rintro e w6 ⟨rfl,mb,jD⟩;exact⟨rfl,h.s.only jD (by omega),h.r.only jD (by omega),mb,h.bel.trans (jD.below (by omega))⟩
 refine Mv.frame ?_;refine Mv.bu ?_;rintro X3 ⟨_,NG,JN,NJ⟩;rw[if_neg (by decide)] at JN;have TT:Hid (qw l7 8 O=Iu G S I J O):=by show _=_;rw[HL7.out,HL6.out,HL5.out,Pu.out,Ss.out];rfl
 rw[TT.out] at JN;clear hne Td hsa TT Ss Pu HL5 HL6 HL7;go_wp2_with (first|(refine fT rfl (.tmp 4) rfl g (hz (Iu G S I J O)) rfl JN ?_))
 refine(oO _ (oB _) _).mono ?_;rintro e w19 ⟨rfl,Nz⟩;have Wq:=NG.below Nz NG.lt;have Ww:Below w.heap.size w w19:=NJ.trans (Nz.mono NJ.size);clear NG JN NJ Nz;go_wp2_with (first|(refine a8 rfl (.tmp 2) (.tmp 57) rfl (w.heap.size+1) (lS (hz (Iu G S I J O))) _ rfl rfl Wq ?_))
 intro X2 Wp Vd;go_wp2_with fail;exact bodyPost_ret (bV rfl _ _ (w.heap.size+1) _ rfl Wp) rfl ⟨by rw[n7,HO.out.1,HO.out.2];rfl,Ww.trans (Vd.below (by omega))⟩
end Go.Proofs.YtphamecphmbipaaGreatDoor
