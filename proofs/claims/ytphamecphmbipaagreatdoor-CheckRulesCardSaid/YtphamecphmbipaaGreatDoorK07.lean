/- Texts of this claim, merged. -/
import Derived.Test.YtphamecphmbipaaGreatDoorK06
set_option linter.unusedVariables false
set_option maxRecDepth 100000
set_option maxHeartbeats 16000000

namespace Go.Proofs.YtphamecphmbipaaGreatDoor
open Go.RowKit
open Lib (hid)
variable {i j:Nat} {oi:Oper} {listed:Array Bool} {a:Act}
namespace Mv
def kL(md:Region.Mode)(ops:Array Oper):Nat->Nat->Nat->Bool
 |0,_,_=>false
 |fuel+1,j,i=>match ops[j]? with
  |none=>false
  |some oj=>oj.after.any λe=>Region.binds md e&&(e.on==i||kL md ops fuel e.on i)
def j3(md:Region.Mode)(ops:Array Oper):Bool:=
 (List.range ops.size).all λj=>(List.range j).all λi=>match ops[j]?,ops[i]? with
  |some oj,some oi=> !(mv oi&&mv oj)||kL md ops ops.size j i
  |_,_=>true
section
variable {P:Program} {ops:Array Oper} {md:Region.Mode} {σ:Type} {C:σ->World->Prop}
theorem yT(h:j3 md ops=true){oj:Oper}(hi:ops[i]? =some oi)(hj:ops[j]? =some oj)(ci:mv oi=true)(cj:mv oj=true)(hij:i<j):kL md ops ops.size j i=true:=by
 unfold j3 at h;rw[List.all_eq_true] at h;have h1:=h j (List.mem_range.2 (Array.getElem?_eq_some_iff.1 hj).1);rw[List.all_eq_true] at h1;have h2:=h1 i (List.mem_range.2 hij);rw[hi,hj] at h2;simpa only[ci,cj,Bool.and_true,Bool.not_true,Bool.false_or] using h2
def Cl(md:Region.Mode)(ops:Array Oper)(listed:Array Bool):Prop:=∀j oj,ops[j]? =some oj->listed.getD j false=true->∀e∈oj.after,Region.binds md e=true->listed.getD e.on false=true
theorem Cl.next(h:Cl md ops listed)(hj:j∈Region.ready md ops listed):Cl md ops (listed.setIfInBounds j true):=by
 intro k ok hk hl e he hb;obtain⟨hun,oj,Du,hall⟩:=mem_ready.1 hj;refine getD_set_true ?_
 by_cases hjk:j=k
 ·subst hjk
  rw[Du] at hk;cases hk;exact hall e he hb
 ·rw[getD_set_ne false hjk] at hl
  exact h k ok hk hl e he hb
theorem Cl.reach(h:Cl md ops listed):∀{fuel j i:Nat} {oj:Oper},(∀e∈oj.after,Region.binds md e=true->listed.getD e.on false=true)->ops[j]? =some oj->kL md ops fuel j i=true->listed.getD i false=true
 |0,_,_,_,_,_,hr=>by cases hr
 |fuel+1,j,i,oj,hall,hj,hr=>by
  unfold kL at hr;rw[hj] at hr;simp only[Array.any_eq_true',Bool.and_eq_true,Bool.or_eq_true,beq_iff_eq] at hr;obtain⟨e,he,hb,hr⟩:=hr;have h1:=hall e he hb;rcases hr with rfl|hr
  ·exact h1
  ·cases ho:ops[e.on]? with
   |none=>
    cases fuel with
    |zero=>cases hr
    |succ f=>unfold kL at hr;rw[ho] at hr;cases hr
   |some oe=>exact Cl.reach h (h _ oe ho h1) ho hr
theorem sL(hex:∀f args w (R':Ending->World->Prop),Calls P f args w R'->∃e w',R' e w')(hch:j3 md ops=true){Q:σ->Act->Prop}(hi:ops[i]? =some oi)(Qr:∀(j:Nat) (o:Oper) cs b,ops[j]? =some o->o.op≠ .select cs b):
  ∀(fuel:Nat) (listed:Array Bool) (s:σ) (a:Act),NE C s->Cl md ops listed->(∀j,j<i->listed.getD j true=true)->
   (∀j oj,ops[j]? =some oj->j≠i->listed.getD j true=false->(∀e∈oj.after,Region.binds md e=true->e.on≠i)->oi.apart ops oj=true)->
   i∈Region.ready md ops listed->LX P ops C oi a s (wpAnyL P md ops C Q fuel (listed.setIfInBounds i true))->wpAnyL P md ops C Q (fuel+1) listed s a:=by
 intro fuel
 induction fuel with
 |zero=>
  intro listed s a hne _ _ _ hr H;refine⟨λh=>(by rw[h] at hr;cases hr),λj hj=> ?_⟩
  by_cases rH:j=i
  ·subst rH;exact H.dE hi
  ·have h1:=ready_mono hj rH
   have h2:Region.ready md ops (listed.setIfInBounds i true)=[]:=by
    obtain⟨w0,NN⟩:=hne;rcases H with⟨_,⟨_,hk⟩|⟨_,v,_,hk⟩⟩|⟨_,hk⟩
    ·obtain⟨_,_,s',_,hL⟩:=kP (hk w0 NN) hex
     exact hL.1
    ·exact hk.1
    ·exact hk.1
   rw[h2] at h1;cases h1
 |succ fuel ih=>
  intro listed s a hne hpre F2 hfree hr H;refine⟨λh=>(by rw[h] at hr;cases hr),λj hj=> ?_⟩
  by_cases rH:j=i
  ·subst rH;exact H.dE hi
  ·have H1:LX P ops C oi a s (λs1 a1=>Mv.dE P ops C j (wpAnyL P md ops C Q fuel ((listed.setIfInBounds i true).setIfInBounds j true)) s1 a1):=
    H.mono hne λs1 a1 _ h=>h.2 j (ready_mono hj rH)
   obtain⟨Jv,oj,Du,hall⟩:=mem_ready.1 hj;have Ve:∀e∈oj.after,Region.binds md e=true->e.on≠i:=λe he hb heq=>by
    have h1:=hall e he hb;have h0:=getD_both (mem_ready.1 hr).1;rw[heq,h0] at h1;cases h1
   have hij:i<j:=by
    rcases Nat.lt_or_ge j i with h'|h'
    ·rw[F2 j h'] at Jv;cases Jv
    ·omega
   have hcc:mv oi=false\/mv oj=false:=by
    cases ci:mv oi with
    |false=>exact .inl rfl
    |true=>
     refine .inr ?_;cases cj:mv oj with
     |false=>rfl
     |true=>
      have h0:=getD_both (mem_ready.1 hr).1;have:=hpre.reach hall Du (yT hch hi Du ci cj hij);rw[h0] at this;cases this
   have h2:=Dd hex Du (hfree j oj Du rH Jv Ve) (λcs b=>Qr i oi cs b hi) (λcs b=>Qr j oj cs b Du) hcc hne H1;have Np:∀k ok,ops[k]? =some ok->k≠i->(listed.setIfInBounds j true).getD k true=false->
     (∀e∈ok.after,Region.binds md e=true->e.on≠i)->oi.apart ops ok=true:=λk ok hk Vx hun hno=>by
    refine hfree k ok hk Vx ?_ hno
    by_cases hjk:j=k
    ·subst hjk;exact Jv
    ·rw[getD_set_ne true hjk] at hun;exact hun
   have QJ:∀m,m<i->(listed.setIfInBounds j true).getD m true=true:=λm hm=>by rw[getD_set_ne true (by omega)];exact F2 m hm
   refine Af hne (λs' a' Nf h3=> ?_) h2;refine ih (listed.setIfInBounds j true) s' a' Nf (hpre.next hj) QJ Np (ready_mono hr (Ne.symm rH)) ?_;rw[Array.setIfInBounds_comm _ _ rH];exact h3
theorem ft(hex:∀f args w (R':Ending->World->Prop),Calls P f args w R'->∃e w',R' e w')(hch:j3 md ops=true){Q:σ->Act->Prop}(hs:Region.noSelect ops=true):∀(l:List Oper) (n:Nat) (listed:Array Bool) (s:σ) (a:Act),NE C s->Cl md ops listed->(∀j,j<n->listed.getD j true=true)->(∀j,l[j]? =ops[n+j]?)->
  Region.lexFrom md ops l.length n listed=true->cZ P ops C Q l s a->wpAnyL P md ops C Q l.length listed s a
 |[],_,_,_,_,_,_,_,_,hB,h=>⟨by simpa[Region.lexFrom] using hB,h⟩
 |o::l,n,listed,s,a,hne,hpre,F2,hl,hB,h=>by
  have h0:ops[n]? =some o:=by simpa using(hl 0).symm
  simp only[List.length_cons,Region.lexFrom,Bool.and_eq_true] at hB;obtain⟨⟨hr,hf⟩,hB'⟩:=hB;have hr':n∈Region.ready md ops listed:=by simpa using hr
  refine sL hex hch h0 (Region.noSelect_spec hs) l.length listed s a hne hpre F2 (Region.free_spec h0 hf) hr' ?_;refine LX.mono hne (λs' a' Nf h'=> ?_) h;refine ft hex hch hs l (n+1) _ _ _ Nf (hpre.next hr') (λj hj=> ?_) (λj=>by have:=hl (j+1);simpa[Nat.add_assoc,Nat.add_comm 1 j] using this) hB' h'
  by_cases hjn:n=j
  ·subst hjn
   rcases Nat.lt_or_ge n listed.size with h'|h'
   ·simp[h']
   ·simp[h']
  ·rw[getD_set_ne true hjn];exact F2 j (by omega)
theorem bs(C:σ->World->Prop)(s:σ){id:Nat}{Q:Exit->Act->World->Prop}{w:World}{l:List Oper}(hm:P.follows .mixedOrders=true)(hB:Region.lexB .any l.toArray=true)(hch:j3 .any l.toArray=true)(hC:C s {w with drawn:=w.drawn+1})
  (h:Nonempty (aT λw=>∃s,C s w)->cZ P l.toArray C (λs a'=>∀w',C s w'->Q .normal a' w') l s a):(Code.region id l.toArray true).wp P Q a w:=by
 simp only[Region.lexB,Bool.and_eq_true] at hB;refine wp_region_any hm (m4 (Q:=λs a'=>∀w',C s w'->Q .normal a' w') (λ_ _ w' hw' h=>h w' hw') _ _ s _ _ hC ?_);have:=ft (C:=C) (md:=.any) iy hch hB.1 l 0 (Array.replicate l.toArray.size false) s a ⟨_,hC⟩ (λj oj hj hl=>by
   rcases Nat.lt_or_ge j l.toArray.size with h'|h'
   ·rw[List.size_toArray] at h';simp[h'] at hl
   ·rw[List.size_toArray] at h';simp[h'] at hl) (λj hj=>by omega) (by simp) (by simpa using hB.2) (h ⟨⟨_,s,hC⟩⟩)
 simpa using this
theorem bR{Q:σ->Act->Prop}{s:σ}{o:Oper}{rest:List Oper}(hw:Region.wanted o (yielded ops a.tmps)=true)(hm:mv o=true)(f:FuncId)(args:Array Value)(u:Value)(s':σ)
  (hrun:∀W,(execOp a.eval o).run P W= .ok (.enter f args) W) (hcall:∀W,C s W->Calls P f args W λe w'=>e= .returned u/\C s' w') (hk:cZ P ops C Q rest s' (a.put o.dst u)):cZ P ops C Q (o::rest) s a:=
 rp hw hm λw hC=>by
  rw[hrun];exact(hcall w hC).mono λe w' h=>⟨u,h.1,s',h.2,hk⟩
end
end Mv
theorem PR(g:Nat){T:TypeId}(l:Nat->Int)(k:Nat)(K v:Int)(hK:K=4*(k:Int))(hk:k<64)(hv:0<=v)(hv2:v<4294967296)(w:World)(hB:aQ w g T 256 (wz l)):
  Calls Tryz.prog 71 #[.slice (some ⟨g,0,none⟩) 256 256,.int .i64 K,.int .u32 v] w λe w'=>e= .returned (.bool true)/\aQ w' g T 256 (wz (upd l k v))/\an g w w':=by
 refine(cU g 0 256 256 K v (wz l) w (by omega) (by omega) (by omega) hv hv2 hB.bI (Es l) (hB.soft 0 256)).mono λe w' ⟨he,hp⟩=>⟨he,?_,hp.only⟩
 rw[show 0+K.toNat=4*k by omega] at hp;exact(hB.kn hp).congr λi _=>L8 l k v i
theorem Fs(m:Nat->Int)(k j:Nat):upd (py m k) k (m k) j=py m (k+1) j:=by
 unfold upd py
 by_cases h:j=k
 ·rw[if_pos h,if_pos (by omega),h]
 ·rw[if_neg h]
  by_cases c:j<k
  ·rw[if_pos c,if_pos (by omega)]
  ·rw[if_neg c,if_neg (by omega)]
structure BkC(w:World)(G b off n:Nat)(m:Nat->Int)(k j:Nat)(W:World):Prop where
 r:aQ W w.heap.size 32 256 (λ_=>0)
 g:aQ W G 32 256 (wz (if j=0 then py m k else py m (k+1)))
 t:iC W b off n m
 bel:Below w.heap.size w W
theorem z5(a:Option Addr)(n cap:Nat)(m:Nat->Int)(hm:Ty m)(hn:n<=64)(w:World)(hT:lj w a n m):
  Calls Tryz.prog 101 #[.slice a n cap] w λe w'=>e= .returned (aL (wz (py m n)))/\Below w.heap.size w w':=by
 have hal:=cJ;have hR:aQ ((w.alloc (.cells (Ks .u8 256 (λ_=>0)).toArray 32)).alloc (.cells (Ks .u8 256 (λ_=>0)).toArray 32)) w.heap.size 32 256 (λ_=>0):=(aQ.new _ _ _ _).alloc _;have hB:aQ ((w.alloc (.cells (Ks .u8 256 (λ_=>0)).toArray 32)).alloc (.cells (Ks .u8 256 (λ_=>0)).toArray 32)) (w.heap.size+1) 32 256 (wz (py m 0)):=by
  have:=aQ.new (w.alloc (.cells (Ks .u8 256 (λ_=>0)).toArray 32)) 32 256 (λ_=>0);simp only[World.size_alloc] at this;exact this.congr λi _=>(yV _).symm
 have hL:Below w.heap.size w ((w.alloc (.cells (Ks .u8 256 (λ_=>0)).toArray 32)).alloc (.cells (Ks .u8 256 (λ_=>0)).toArray 32)):=((Below.refl _ _).alloc (Nat.le_refl _) _).alloc (by simp) _;have Wm:=hT.below hL;have hblk:∀x,a=some x->0<n->x.block<w.heap.size:=λx hx h0=>hT.block h0 x hx
 have XT:=hid hblk;have HM:=hid hm;clear hT hblk hm;go_enter Tryz.func101,Tryz.ntmps101;go_wp2_with fail;generalize ((w.alloc (.cells (Ks .u8 256 (λ_=>0)).toArray 32)).alloc (.cells (Ks .u8 256 (λ_=>0)).toArray 32))=w1 at hR hB hL Wm ⊢;go_loopw [4] (λu wr=>∃k:Nat,k<=n/\u= .int .i64 (k:Int)/\aQ wr w.heap.size 32 256 (λ_=>0)/\aQ wr (w.heap.size+1) 32 256 (wz (py m k))/\lj wr a n m/\Below w.heap.size w wr) (λu _=>n-(intOf u).toNat)
 case atStart=>exact⟨0,by omega,rfl,hR,hB,Wm,hL⟩
 case round=>
  clear hR hB hL Wm;obtain⟨k,hk,rfl,hR,hB,hT,hL⟩:=hrel
  by_cases hlt:k<n
  ·obtain⟨b,off,rfl,hseg⟩:∃b off,a=some ⟨b,off,none⟩/\iC wr b off n m:=by
    rcases hT with h|h
    ·omega
    ·exact h
   have hblt:=XT.out _ rfl (by omega);simp only at hblt;obtain⟨hm0,BH⟩:=HM.out k;have hc0:∀x:aT (λW=>∃j,BkC w (w.heap.size+1) b off n m k j W),x.W.cell? ⟨b,off+k,none⟩=some (.int .u32 (m k)):=λx=>by obtain⟨j,h⟩:=x.h;exact h.t k hlt
   have e1:IntKind.i64.wrap (4*(k:Int))=4*(k:Int):=IntWalk.i64_in _ (by omega);have hsa:=λW=>a7 (w.heap.size+1) 0 W
   have l0:(0:Int)<=(k:Int):=by omega
   have l1:(k:Int)<(n:Int):=by omega
   go_wp2_with fail;refine Mv.bs (BkC w (w.heap.size+1) b off n m k) 0 (by kernel_rfl) (by kernel_rfl) (by kernel_rfl) ⟨hR,hB,hseg,hL.drew⟩ ?_;intro hne
   (refine Mv.aO 7 (by kernel_rfl) ?_;simp only[List.take,List.drop])
   iterate 7 go_big_quiet_step (fail)
   refine wpQuiet_nil ?_;refine Mv.bR rfl rfl 71 #[.slice (some ⟨w.heap.size+1,0,none⟩) 256 256,.int .i64 (4*(k:Int)),.int .u32 (m k)] (.bool true) 1 (λW=>by kernel_rfl) (λW h=> ?c1) ?_
   case c1=>
    refine(PR (w.heap.size+1) (py m k) k (4*(k:Int)) (m k) rfl (by omega) hm0 BH W h.g).mono ?_;rintro e w6 ⟨rfl,mb,jD⟩;exact⟨rfl,h.r.only jD (by omega),mb.congr λi hi=>xd 64 (λj _=>Fs m k j) i hi,h.t.only jD (by omega),h.bel.trans (jD.below (by omega))⟩
   refine Mv.frame ?_;refine Mv.bu ?_;rintro w6 ⟨JJ,mb,Za,Tl⟩;rw[if_neg (by decide)] at mb;clear hne hR hB hT hL hseg hc0 e1 hsa;go_wp2_with fail;go_roundw
   case rel=>(try((repeat apply Exists.intro);refine⟨?_,rfl⟩));exact⟨k+1,by omega,by go_num,JJ,mb,.inr ⟨b,off,rfl,Za⟩,Tl⟩
   case measure=>simp[intOf];omega
  ·obtain rfl:k=n:=by omega
   go_wp2_with (first|(refine fT rfl (.tmp 3) rfl (w.heap.size+1) (wz (py m k)) rfl hB ?_)|(refine a8 rfl (.tmp 2) (.tmp 19) rfl w.heap.size (wz (py m k)) _ rfl rfl hR ?_))
   intro w6 JJ jD;go_wp2_with fail;exact bodyPost_ret (iO rfl _ _ w.heap.size _ rfl JJ) rfl ⟨rfl,hL.trans (jD.below (Nat.le_refl _))⟩
theorem CG(a b c d:Int)(w:World):(Instr.buildSlice 180 4 #[(0,.int .u32 a),(1,.int .u32 b),(2,.int .u32 c),(3,.int .u32 d)]).run Tryz.prog w= .ok (.slice (some ⟨w.heap.size,0,none⟩) 4 4) (w.alloc (.cells #[.int .u32 a,.int .u32 b,.int .u32 c,.int .u32 d] 45)):=by kernel_rfl
theorem PZ(w:World)(k s f:Int)(r:Nat->Int):lj (w.alloc (.cells #[.int .u32 1280199249,.int .u32 k,.int .u32 s,.int .u32 f] 45)) (some ⟨w.heap.size,0,none⟩) 4 (jw k s f r):=by
 refine .inr ⟨_,_,rfl,λi hi=> ?_⟩;have h:=heap_alloc_new w (.cells #[.int .u32 1280199249,.int .u32 k,.int .u32 s,.int .u32 f] 45);obtain rfl|rfl|rfl|rfl:i=0\/i=1\/i=2\/i=3:=by omega
 all_goals exact ay h rfl
theorem Il{m l:Nat->Int}{n:Nat}(h:∀k,k<64->(if k<n then m k else 0)=l k):aL (wz (py m n))=aL (wz l):=AT λi hi=>xd 64 h i hi
theorem IZ:Ty nz:=λ_=>by unfold nz;decide
theorem qT(s t:Int)(w:World)(hs:0<=s/\s<4294967296)(ht:-9223372036854775808<=t/\t<=9223372036854775807):
  Calls Tryz.prog 62 #[.agg #[.int .u32 s,.int .i64 t]] w λe w'=>e= .returned (.tuple #[aL (kT s t),.int .i64 (Rq (ja s t) 2)])/\Below w.heap.size w w':=by
 obtain⟨hs0,hs1⟩:=hs;obtain⟨ht0,ht1⟩:=ht;have hal:=cJ;obtain⟨W,hW⟩:∃W,W=(w.alloc (.cells #[.int .u32 s,.int .i64 t] 141)).alloc (.cells (Ks .u8 256 (λ_=>0)).toArray 32):=⟨_,rfl⟩;have c0:W.cell? ⟨w.heap.size,0,none⟩=some (.int .u32 s):=by rw[hW];exact ay (dS (heap_alloc_new w _) _) rfl
 have c1:W.cell? ⟨w.heap.size,1,none⟩=some (.int .i64 t):=by rw[hW];exact ay (dS (heap_alloc_new w _) _) rfl
 have hR:aQ W (w.heap.size+1) 32 256 (λ_=>0):=by
  rw[hW];have:=aQ.new (w.alloc (.cells #[.int .u32 s,.int .i64 t] 141)) 32 256 (λ_=>0);simp only[World.size_alloc] at this;exact this
 have hL:Below w.heap.size w W:=by rw[hW];exact((Below.refl _ _).alloc (Nat.le_refl _) _).alloc (by simp) _
 have HW:=hid hW;have Ow:=hid c0;have iX:=hid c1;clear hW c0 c1;go_enter Tryz.func62,Tryz.ntmps62;go_wp2_with fail;rw[<-HW.out];refine(Fa s _).mono ?_;rintro e w1 ⟨rfl,rfl⟩;have c0:=Ow.out;have c1:=iX.out;clear Ow iX HW
 by_cases hq:seqB s=true
 rotate_left
 ·rw[Bool.not_eq_true] at hq
  have HO:Hid (ja s t=false):=by show _=_;unfold ja;rw[hq];rfl
  rw[hq];clear hq;go_wp2_with (first|(refine a8 rfl (.tmp 2) (.tmp 18) rfl (w.heap.size+1) (λ_=>0) _ rfl rfl hR ?_))
  intro w2 kV er;go_wp2_with fail;exact bodyPost_ret (bV rfl _ _ (w.heap.size+1) _ rfl kV) rfl ⟨by rw[kT,HO.out];rfl,hL.trans (er.below (by omega))⟩
 by_cases h1:0<=t
 rotate_left
 ·have HO:Hid (ja s t=false):=by show _=_;unfold ja;simp[h1]
  rw[hq];clear hq;go_wp2_with (first|(refine a8 rfl (.tmp 2) (.tmp 18) rfl (w.heap.size+1) (λ_=>0) _ rfl rfl hR ?_))
  intro w2 kV er;go_wp2_with fail;exact bodyPost_ret (bV rfl _ _ (w.heap.size+1) _ rfl kV) rfl ⟨by rw[kT,HO.out];rfl,hL.trans (er.below (by omega))⟩
 by_cases h2:t<=255
 rotate_left
 ·have HO:Hid (ja s t=false):=by show _=_;unfold ja;simp[h2]
  rw[hq];clear hq;go_wp2_with (first|(refine a8 rfl (.tmp 2) (.tmp 18) rfl (w.heap.size+1) (λ_=>0) _ rfl rfl hR ?_))
  intro w2 kV er;go_wp2_with fail;exact bodyPost_ret (bV rfl _ _ (w.heap.size+1) _ rfl kV) rfl ⟨by rw[kT,HO.out];rfl,hL.trans (er.below (by omega))⟩
 have HO:Hid (ja s t=true):=by show _=_;unfold ja;rw[hq];simp[h1,h2]
 rw[hq];clear hq;have hbs:=CG;have hrow:=PZ W 4 s t nz;have DX:=hid hrow;clear hrow;go_wp2_with fail;refine(z5 _ 4 4 (jw 4 s t nz) (MJ (by decide) (by omega) (by omega) IZ) (by decide) _ DX.out).mono ?_;rintro e w2 ⟨rfl,hb2⟩;rw[Il (l:=jw 4 s t nz) (λk _=>by
  split
  ·rfl
  ·unfold jw nz;rw[if_neg (by omega),if_neg (by omega),if_neg (by omega),if_neg (by omega)])]
 have kV:=(hR.alloc _).below hb2 (hR.alloc _).lt;have hL2:Below w.heap.size w w2:=(hL.alloc hL.size _).trans (hb2.mono (hL.alloc hL.size _).size);clear hR hL hb2 c0 c1 hbs DX;go_wp2_with (first|(refine a8 rfl (.tmp 2) (.tmp 25) rfl (w.heap.size+1) (wz (jw 4 s t nz)) _ rfl rfl kV ?_))
 intro w3 DG nU;go_wp2_with fail;exact bodyPost_ret (bV rfl _ _ (w.heap.size+1) _ rfl DG) rfl ⟨by rw[kT,HO.out];rfl,hL2.trans (nU.below (by omega))⟩
end Go.Proofs.YtphamecphmbipaaGreatDoor
