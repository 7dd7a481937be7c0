/- Texts of this claim, merged. -/
import Derived.Test.YtphamecphmbipaaGreatDoorK36
import Derived.Test.YtphamecphmbipaaGreatDoorK21
namespace Go.Proofs.YtphamecphmbipaaGreatDoor
open Go.RowKit
set_option linter.unusedVariables false
def ImgPost (G S I J:Int) (P:PlanD) (w:World) (e:Ending) (w':World):Prop :=
 Below w.heap.size w w' ∧ ((mayG G S I J = false ∧ e = .returned (.slice none 0 0)) ∨
  (∃ (x:Im) (q:Nat),x.Ok ∧ x = mkIm x.g x.s x.i x.j ∧ G = x.g ∧ S = x.s ∧ I = x.i ∧ J = x.j ∧ e = .returned (.slice (some ⟨q,0,none⟩) x.n x.n) ∧ w.heap.size ≤ q ∧
   RArr w' q 32 256 x.n (bkF (P.img x)) ∧ ∀ b,Byt (P.img x b)))
theorem mk_x {G S I J:Int} (hm:mayG G S I J = true):∃ x:Im,x.Ok ∧ x = mkIm x.g x.s x.i x.j ∧ G = x.g ∧ S = x.s ∧ I = x.i ∧ J = x.j:=by
 obtain ⟨h1,h2,h3,h4,h5,h6,h7,h8,h9,h10,h11⟩:=(mayG_iff G S I J).1 hm
 obtain ⟨g,rfl⟩:∃ g:Nat,G = g:=⟨G.toNat,by omega⟩
 obtain ⟨s,rfl⟩:∃ s:Nat,S = s:=⟨S.toNat,by omega⟩
 obtain ⟨i,rfl⟩:∃ i:Nat,I = i:=⟨I.toNat,by omega⟩
 obtain ⟨j,rfl⟩:∃ j:Nat,J = j:=⟨J.toNat,by omega⟩
 exact ⟨mkIm g s i j,⟨fun b => mkB_byt g s i j b,hm,rfl,(by decide:(0:Nat) < 4294967296)⟩,rfl,rfl,rfl,rfl,rfl⟩
structure Im0 (M q p:Nat) (x:Im) (m:MS) (d:PlAd) (P:PlanD) (w W:World):Prop where
 pm:PlM M q x m W
 bx:At W p 27 (plRow x.g x.s x.i x.j d P)
 r:PlnR w.heap.size d P W
 bel:Below w.heap.size w W
theorem Im0.below {M q p:Nat} {x:Im} {m:MS} {d:PlAd} {P:PlanD} {w W W':World} (h:Im0 M q p x m d P w W) (hb:Below W.heap.size W W'):Im0 M q p x m d P w W' :=
 ⟨h.pm.below hb,h.bx.below hb h.bx.lt,h.r.below (hb.mono h.bel.size),h.bel.trans (hb.mono h.bel.size)⟩
theorem Im0.geo {M q p:Nat} {x:Im} {m:MS} {d:PlAd} {P:PlanD} {w W:World} (h:Im0 M q p x m d P w W):W.rangeAt p 0 (gcells x.g x.s x.i x.j).toList:=fun k v hk => by
 match k,hk with
 | 0,hk => injection hk with hk;subst hk;exact h.bx.cell (i:=0) rfl
 | 1,hk => injection hk with hk;subst hk;exact h.bx.cell (i:=1) rfl
 | 2,hk => injection hk with hk;subst hk;exact h.bx.cell (i:=2) rfl
 | 3,hk => injection hk with hk;subst hk;exact h.bx.cell (i:=3) rfl
 | k + 4,hk => cases hk
theorem SlU.grown {W W':World} {base sb n:Nat} {sl:Nat → List Slt} {a:Nat → Option Addr} {c:Nat → Nat} (h:SlU W base sb n sl a c) {row:Option Nat} (hg:W.grownBy W' row) (hs:row ≠ some sb) (hr:∀ t,t < n → obk (a t) = none ∨ obk (a t) ≠ row):SlU W' base sb n sl a c :=
 ⟨h.u.grown hg (fun e => hs e.symm),fun t ht => (h.r t ht).kept hg (by rw [obk_eq];exact hr t ht),h.ne⟩
theorem SlU.only {W W':World} {base sb n:Nat} {sl:Nat → List Slt} {a:Nat → Option Addr} {c:Nat → Nat} (h:SlU W base sb n sl a c) {g:Nat} (ho:Only g W W') {T:TypeId} {cs:Array Value} (hA:At W g T cs) (hT:90 ≠ T) (hs:g ≠ sb):SlU W' base sb n sl a c :=
 h.grown (grown_only ho) (fun e => by injection e with e;exact hs e) fun t ht => .inr (by rw [← obk_eq (a t) (sl t).length (c t)];exact at_own_neS hA (h.r t ht) hT)
theorem info_slr:(Tryz.prog.info? 88).map (fun i => (i.zero,i.size,i.bytes)) = some (some (.slice none 0 0),1,24):=by kernel_rfl
theorem run_mkslr (n:Nat) (hn:n ≤ 2048) (W:World):(Instr.makeSlice 87 (.int .i64 ((n:Int) + 1)) (.int .i64 ((n:Int) + 1))).run Tryz.prog W = .ok (.slice (some ⟨W.heap.size,0,none⟩) (n + 1) (n + 1)) (W.alloc (.cells (madeCells #[.slice none 0 0] (n + 1)) 88)):=by
 have h:=run_mkrow (P:=Tryz.prog) 87 88 (.slice none 0 0) 1 24 Tryz.underlying87 info_slr .i64 .i64 (n + 1) (by omega) (by omega) W
 rw [Nat.mul_one] at h
 exact h
theorem run_mkino (n:Nat) (hn:n ≤ 2048) (W:World):(Instr.makeSlice 86 (.int .i64 ((n:Int) + 1)) (.int .i64 ((n:Int) + 1))).run Tryz.prog W = .ok (.slice (some ⟨W.heap.size,0,none⟩) (n + 1) (n + 1)) (W.alloc (.cells (madeCells Ino.nil.val.cells ((n + 1) * 16)) 63)) :=
 run_mkrow (P:=Tryz.prog) 86 63 Ino.nil.val 16 80 Tryz.underlying86 info_inode .i64 .i64 (n + 1) (by omega) (by omega) W
theorem ino_one (y:Ino):∀ v ∈ y.arr.toList,v.oneCell' = true:=by
 intro v hv
 have:y.arr.toList.all (·.oneCell') = true:=by kernel_rfl
 exact (List.all_eq_true.1 this) v hv
theorem info_file (i:Nat) (d:PlAd) (P:PlanD):(Tryz.prog.info? 78).map (·.size) = some (flR d P i).toArray.size:=by kernel_rfl
theorem one_file (i:Nat) (d:PlAd) (P:PlanD):(flR d P i).toArray.all (·.oneCell') = true:=by kernel_rfl
structure ImF (M q Y N p sb fb B:Nat) (x:Im) (m:MS) (d:PlAd) (P:PlanD) (k:Nat) (A:PlanD.IS) (a:Nat → Option Addr) (c:Nat → Nat) (w W:World):Prop where
 ic:ImC M q Y N p x m A.ino d P w W
 fi:At W fb 78 (flR d P k).toArray
 su:SlU W B sb N A.sl a c
theorem ImF.below {M q Y N p sb fb B:Nat} {x:Im} {m:MS} {d:PlAd} {P:PlanD} {k:Nat} {A:PlanD.IS} {a:Nat → Option Addr} {c:Nat → Nat} {w W W':World} (h:ImF M q Y N p sb fb B x m d P k A a c w W) (hb:Below W.heap.size W W'):ImF M q Y N p sb fb B x m d P k A a c w W' :=
 ⟨h.ic.below hb,h.fi.below hb h.fi.lt,h.su.below hb⟩
theorem ImC.lts {M q Y N p:Nat} {x:Im} {m:MS} {ys:Nat → Ino} {d:PlAd} {P:PlanD} {w W:World} (h:ImC M q Y N p x m ys d P w W):M < W.heap.size ∧ q < W.heap.size ∧ Y < W.heap.size ∧ p < W.heap.size:=⟨h.pm.lM,h.pm.im.lt,h.y.lt,h.bx.lt⟩
theorem ImF.start {M q Y N p sb B:Nat} {x:Im} {m:MS} {d:PlAd} {P:PlanD} {k:Nat} {A:PlanD.IS} {a:Nat → Option Addr} {c:Nat → Nat} {w W W':World} (h:ImC M q Y N p x m A.ino d P w W) (hs:SlU W B sb N A.sl a c) {cs:Array Value} (ha:At W' W.heap.size 78 (flR d P k).toArray) (ho:Only W.heap.size (W.alloc (.cells cs 78)) W') :
  ImF M q Y N p sb W.heap.size B x m d P k A a c w W':=by
 have hb:Below W.heap.size W (W.alloc (.cells cs 78)):=(Below.refl _ _).alloc (Nat.le_refl _) _
 obtain ⟨l1,l2,l3,l4⟩:=h.lts
 have l5:=hs.u.lt
 have l6:=h.bel.size
 refine ⟨(h.below hb).only ho (by omega),ha,(hs.below hb).only ho (At.new W 78 cs) (by decide) (by omega)⟩
theorem ImF.putI {M q Y N p sb fb B:Nat} {x:Im} {m:MS} {d:PlAd} {P:PlanD} {k:Nat} {A:PlanD.IS} {a:Nat → Option Addr} {c:Nat → Nat} {w W W':World} (h:ImF M q Y N p sb fb B x m d P k A a c w W) {i:Nat} (hi:i < N) (y:Ino) (hW:W' = W.setCells Y (i * 16) y.arr.toList):ImF M q Y N p sb fb B x m d P k { A with ino:=updN A.ino i y } a c w W':=by
 obtain ⟨h1,h2⟩:=h.ic.putI hi y hW
 obtain ⟨cs,hc,_⟩:=h.ic.y.blk
 obtain ⟨cu,hu,_⟩:=h.su.u.blk
 exact ⟨h1,h.fi.only h2 (At.unlike h.fi hc (by decide)),h.su.only h2 hc (by decide) (At.unlike hc hu (by decide))⟩
theorem ImF.putL {M q Y N p sb fb B:Nat} {x:Im} {m:MS} {d:PlAd} {P:PlanD} {k:Nat} {A:PlanD.IS} {a:Nat → Option Addr} {c:Nat → Nat} {w W:World} (h:ImF M q Y N p sb fb B x m d P k A a c w W) {i:Nat} (hi:i < N) (v:Int):ImF M q Y N p sb fb B x m d P k { A with ino:=updN A.ino i { A.ino i with links:=v } } a c w (W.setCell ⟨Y,i * 16 + 1,none⟩ (.int .i64 v)):=by
 obtain ⟨h1,h2⟩:=h.ic.putL hi v
 obtain ⟨cs,hc,_⟩:=h.ic.y.blk
 obtain ⟨cu,hu,_⟩:=h.su.u.blk
 exact ⟨h1,h.fi.only h2 (At.unlike h.fi hc (by decide)),h.su.only h2 hc (by decide) (At.unlike hc hu (by decide))⟩
theorem slvL_old (l:List Slt) (e:Slt) (t:Nat) (ht:t < l.length):slvL l t = slvL (l ++ [e]) t:=by
 unfold slvL
 have h:(l ++ [e]).getD t default = l.getD t default:=by simp [List.getD_eq_getElem?_getD,List.getElem?_append_left ht]
 rw [h]
theorem slvL_new (l:List Slt) (e:Slt):slvL (l ++ [e]) l.length = [.int .u32 (e.1:Nat),.string e.2]:=by
 unfold slvL
 have h:(l ++ [e]).getD l.length default = e:=by simp [List.getD_eq_getElem?_getD]
 rw [h]
structure N19 (M q Y N p sb fb B:Nat) (x:Im) (m:MS) (d:PlAd) (P:PlanD) (k:Nat) (A:PlanD.IS) (a:Nat → Option Addr) (c:Nat → Nat) (dn:Nat) (e:Slt) (w:World) (st:Mv.St) (W:World):Prop where
 ic:ImC M q Y N p x m A.ino d P w W
 fi:At W fb 78 (flR d P k).toArray
 u:RArr W sb 88 1 N (fun t => [.slice (a t) (A.sl t).length (c t)])
 r:∀ t,t < N → t ≠ dn → RMine W B 90 2 (.slice (a t) (A.sl t).length (c t)) (A.sl t).length (slvL (A.sl t))
 ne:∀ s t,s < N → t < N → s ≠ t → obk (a s) = none ∨ obk (a s) ≠ obk (a t)
 s0:st.n < 2 → RMine W B 90 2 (.slice (a dn) (A.sl dn).length (c dn)) (A.sl dn).length (slvL (A.sl dn))
 s1:st.n = 1 → ∀ g,st.v = .slice (some ⟨g,0,none⟩) 1 1 → ∀ j u,([.int .u32 (e.1:Nat),.string e.2]:List Value)[j]? = some u → W.cell? ((⟨g,0,none⟩:Addr).add j) = some u
 s2:st.n = 2 → RMine W B 90 2 st.v ((A.sl dn).length + 1) (slvL (A.sl dn ++ [e])) ∧ ∀ t,t < N → t ≠ dn → obk (a t) = none ∨ obk (a t) ≠ st.v.ownBlock
section
variable {M q Y N p sb fb B k dn:Nat} {x:Im} {m:MS} {d:PlAd} {P:PlanD} {A:PlanD.IS} {a:Nat → Option Addr} {c:Nat → Nat} {e:Slt} {w W W':World}
theorem N19.start (h:ImF M q Y N p sb fb B x m d P k A a c w W) (hd:dn < N) (hb:Below W.heap.size W W'):N19 M q Y N p sb fb B x m d P k A a c dn e w ⟨0,undef⟩ W':=by
 have h':=h.below hb
 exact ⟨h'.ic,h'.fi,h'.su.u,fun t ht _ => h'.su.r t ht,h'.su.ne,fun _ => h'.su.r dn hd,(fun e => by cases e),fun e => by cases e⟩
theorem N19.alloc (h:N19 M q Y N p sb fb B x m d P k A a c dn e w ⟨0,undef⟩ W):N19 M q Y N p sb fb B x m d P k A a c dn e w ⟨1,.slice (some ⟨W.heap.size,0,none⟩) 1 1⟩ (W.alloc (.cells #[.int .u32 (e.1:Nat),.string e.2] 90)):=by
 have hb:Below W.heap.size W (W.alloc (.cells #[.int .u32 (e.1:Nat),.string e.2] 90)):=(Below.refl _ _).alloc (Nat.le_refl _) _
 refine ⟨h.ic.below hb,h.fi.below hb h.fi.lt,h.u.below hb,fun t ht hn => (h.r t ht hn).below hb,h.ne,fun _ => (h.s0 (by decide)).below hb,?_,fun e => by cases e⟩
 rintro _ g hg
 injection hg with h1 h2 h3;injection h1 with h1;injection h1 with h1;subst h1
 exact cells_news W [.int .u32 (e.1:Nat),.string e.2] _
theorem N19.cell {st:Mv.St} (h:N19 M q Y N p sb fb B x m d P k A a c dn e w st W) (hd:dn < N):W.cell? ⟨sb,dn,none⟩ = some (.slice (a dn) (A.sl dn).length (c dn)):=by
 have:=h.u.seg dn hd 0 _ rfl
 rwa [Nat.zero_add,Nat.mul_one,Nat.add_zero] at this
theorem N19.app {g:Nat} (h:N19 M q Y N p sb fb B x m d P k A a c dn e w ⟨1,.slice (some ⟨g,0,none⟩) 1 1⟩ W) (hd:dn < N) (hB:w.heap.size ≤ B ∧ M < B ∧ q < B ∧ Y < B ∧ p < B ∧ sb < B) {v':Value} (hg:W.grownBy W' (Value.slice (a dn) (A.sl dn).length (c dn)).ownBlock)
  (ho:W'.ownsRow B 90 2 v' ((A.sl dn).length + 1) (Cs (slvL (A.sl dn)) (A.sl dn).length ++ [.int .u32 (e.1:Nat),.string e.2])) (hv:v'.ownBlock = (Value.slice (a dn) (A.sl dn).length (c dn)).ownBlock ∨ v'.ownBlock = some W.heap.size):N19 M q Y N p sb fb B x m d P k A a c dn e w ⟨2,v'⟩ W':=by
 have hown:=h.s0 (by show (1:Nat) < 2;decide)
 have hob:∀ r,(Value.slice (a dn) (A.sl dn).length (c dn)).ownBlock = some r → B ≤ r:=fun r hr => (World.ownsRow.lt hown r hr).1
 obtain ⟨cu,hu,_⟩:=h.u.blk
 have hne:∀ t,t < N → t ≠ dn → obk (a t) = none ∨ obk (a t) ≠ (Value.slice (a dn) (A.sl dn).length (c dn)).ownBlock:=fun t ht hn => by rw [obk_eq];exact h.ne t dn ht hd hn
 refine ⟨h.ic.grown hg (fun r e => by have:=hob r e;omega),AtGrown h.fi hg (at_own_neS h.fi hown (by decide)),h.u.grown hg (fun e => at_own_neS hu hown (by decide) e.symm),fun t ht hn => (h.r t ht hn).kept hg (by rw [obk_eq];exact hne t ht hn),h.ne,(fun e:(2:Nat) < 2 => absurd e (by decide)),(fun e => by cases e),fun _ => ⟨?_,fun t ht hn => ?_⟩⟩
 ·refine RMine.append (k:=1) (f:=slvL (A.sl dn ++ [e])) (news:=[.int .u32 (e.1:Nat),.string e.2]) ?_ ?_
  ·rw [show Cs (slvL (A.sl dn ++ [e])) (A.sl dn).length = Cs (slvL (A.sl dn)) (A.sl dn).length from Cs_congr fun t ht => (slvL_old _ _ t ht).symm]
   exact ho
  ·show _ = ([]:List Value) ++ slvL (A.sl dn ++ [e]) ((A.sl dn).length + 0)
   rw [Nat.add_zero,slvL_new];rfl
 ·rcases hv with hv | hv
  ·show obk (a t) = none ∨ obk (a t) ≠ v'.ownBlock
   rw [hv];exact hne t ht hn
  ·show obk (a t) = none ∨ obk (a t) ≠ v'.ownBlock
   rw [hv]
   right
   intro e
   have:=(World.ownsRow.lt (h.r t ht hn) W.heap.size (by rw [obk_eq];exact e)).2
   omega
theorem N19.fin {ca:Option Addr} {cc:Nat} (h:N19 M q Y N p sb fb B x m d P k A a c dn e w ⟨2,.slice ca ((A.sl dn).length + 1) cc⟩ W) (hd:dn < N) (hsb:w.heap.size ≤ sb) :
  ImF M q Y N p sb fb B x m d P k { A with sl:=updN A.sl dn (A.sl dn ++ [e]) } (updN a dn ca) (updN c dn cc) w (W.setCell ⟨sb,dn,none⟩ (.slice ca ((A.sl dn).length + 1) cc)):=by
 have ho:Only sb W (W.setCell ⟨sb,dn,none⟩ (.slice ca ((A.sl dn).length + 1) cc)):=Only.setCell W ⟨sb,dn,none⟩ _
 obtain ⟨cu,hu,_⟩:=h.u.blk
 obtain ⟨f,hf⟩:=h.ic.pm.k
 obtain ⟨c1,h1,_⟩:=h.ic.pm.im.blk
 obtain ⟨c2,h2,_⟩:=h.ic.y.blk
 obtain ⟨hm,hne⟩:=h.s2 rfl
 refine ⟨h.ic.only ho ⟨hsb,(At.unlike hf hu (by decide)).symm,(At.unlike h1 hu (by decide)).symm,(At.unlike h2 hu (by decide)).symm,(At.unlike h.ic.bx hu (by decide)).symm⟩,h.fi.only ho (At.unlike h.fi hu (by decide)),?_,fun t ht => ?_,fun s t hs ht hst => ?_⟩
 ·have:=h.u.cellset (k:=dn) (j:=0) hd (by decide) (fun _ => rfl) (.slice ca ((A.sl dn).length + 1) cc)
  rw [Nat.mul_one,Nat.add_zero] at this
  refine this.congr fun t ht => ?_
  unfold updN
  dsimp only
  by_cases e':t = dn
  ·subst e';rw [if_pos rfl,if_pos rfl,if_pos rfl,if_pos rfl,List.length_append];rfl
  ·rw [if_neg e',if_neg e',if_neg e',if_neg e']
 ·dsimp only
  unfold updN
  by_cases e':t = dn
  ·subst e'
   rw [if_pos rfl,if_pos rfl,if_pos rfl,List.length_append]
   exact own_only hm ho (at_own_neS hu hm (by decide))
  ·rw [if_neg e',if_neg e',if_neg e']
   exact own_only (h.r t ht e') ho (at_own_neS hu (h.r t ht e') (by decide))
 ·unfold updN
  by_cases es:s = dn
  ·subst es
   rw [if_pos rfl,if_neg (fun e => hst e.symm)]
   rcases hne t ht (fun e => hst e.symm) with h1 | h1
   ·cases hca:obk ca with
    | none => exact .inl rfl
    | some r => right;rw [h1];exact fun e => by cases e
   ·right
    intro e
    refine h1 ?_
    show obk (a t) = (Value.slice ca ((A.sl s).length + 1) cc).ownBlock
    rw [obk_eq,e]
  ·rw [if_neg es]
   by_cases et:t = dn
   ·subst et
    rw [if_pos rfl]
    have:=hne s hs es
    rw [show (⟨2,.slice ca ((A.sl t).length + 1) cc⟩:Mv.St).v.ownBlock = (Value.slice ca ((A.sl t).length + 1) cc).ownBlock from rfl,obk_eq] at this
    exact this
   ·rw [if_neg et];exact h.ne s t hs ht hst
end
theorem slvL_len (l:List Slt) (k:Nat):(slvL l k).length = 2:=rfl
theorem ImC.slt {M q Y N p sb B:Nat} {x:Im} {m:MS} {ys:Nat → Ino} {d:PlAd} {P:PlanD} {sl:Nat → List Slt} {a:Nat → Option Addr} {c:Nat → Nat} {w W:World} (h:ImC M q Y N p x m ys d P w W) (hs:SlU W B sb N sl a c) (hB:M < B ∧ q < B ∧ Y < B):SltW M q Y N sb a c sl W:=by
 obtain ⟨cu,hu,_⟩:=hs.u.blk
 obtain ⟨f,hf⟩:=h.pm.k
 obtain ⟨c1,h1,_⟩:=h.pm.im.blk
 obtain ⟨c2,h2,_⟩:=h.y.blk
 refine ⟨fun k hk => ?_,fun k hk => (hs.r k hk).row (slvL_len _),⟨hs.u.lt,?_⟩,fun k b off hk e => ?_⟩
 ·have:=hs.u.seg k hk 0 _ rfl
  rwa [Nat.zero_add,Nat.mul_one,Nat.add_zero] at this
 ·rintro (e | e | e)
  ·exact At.unlike hf hu (by decide) e.symm
  ·exact At.unlike h1 hu (by decide) e.symm
  ·exact At.unlike h2 hu (by decide) e.symm
 ·have:=World.ownsRow.lt (hs.r k hk) b (by rw [e];rfl)
  refine ⟨this.2,?_⟩
  rintro (e | e | e) <;> omega
theorem img_inv {x:Im} (hx:x.Ok) (P:PlanD) (hB:P.Bd) (N n:Nat) (hN:N ≤ 4096):PlInv x ⟨mkB x.g x.s x.i x.j,0⟩ (P.isF N N).ino n :=
 ⟨fun _ => 0,MS.wf0 hx,fun k hk q hq => by
  rw [(P.isF_ok hB N N hN k).2 q]
  exact ⟨by decide,.inl rfl⟩⟩
theorem img_len (P:PlanD) (hS:P.Small) (N:Nat) (hN:N ≤ P.nf) (k:Nat):((P.isF N N).sl k).length ≤ 1000 ∧ ∀ t,t < ((P.isF N N).sl k).length → (((P.isF N N).sl k).getD t default).1 < 4294967296:=by
 obtain ⟨h1,h2⟩:=P.isF_len N N k
 have hcn:P.cn N ≤ P.cn P.nf:=by
  by_cases e:N = 0
  ·subst e;exact Nat.zero_le _
  ·have:=PlanD.cn_mono P (k:=N - 1) (n:=P.nf) (by omega)
   rwa [show N - 1 + 1 = N by omega] at this
 have:=hS.cn
 have:=hS.nf
 refine ⟨by omega,fun t ht => ?_⟩
 have hm:((P.isF N N).sl k).getD t default ∈ (P.isF N N).sl k:=by
  rw [List.getD_eq_getElem?_getD,List.getElem?_eq_getElem ht]
  exact List.getElem_mem ht
 have:=h2 _ hm
 omega
theorem info_plan (G S I J:Int) (d:PlAd) (P:PlanD):(Tryz.prog.info? 27).map (·.size) = some (plRow G S I J d P).size:=by kernel_rfl
set_option maxRecDepth 100000 in
set_option maxHeartbeats 16000000 in
theorem image20_any (G S I J:Int) (d:PlAd) (P:PlanD) (hB:P.Bd) (hS:P.Small) (w:World) (hP:PlnR w.heap.size d P w) :
  Calls Tryz.prog 9 #[plVal G S I J d P] w fun e w' => ImgPost G S I J P w e w':=by
 have hbx:=At.new w 27 (plRow G S I J d P)
 have hb0:Below w.heap.size w (w.alloc (.cells (plRow G S I J d P) 27)):=(Below.refl _ _).alloc (Nat.le_refl _) _
 have hrg:(w.alloc (.cells (plRow G S I J d P) 27)).rangeAt w.heap.size 0 (gcells G S I J).toList:=fun k v hk => by
  match k,hk with
  | 0,hk => injection hk with hk;subst hk;exact hbx.cell (i:=0) rfl
  | 1,hk => injection hk with hk;subst hk;exact hbx.cell (i:=1) rfl
  | 2,hk => injection hk with hk;subst hk;exact hbx.cell (i:=2) rfl
  | 3,hk => injection hk with hk;subst hk;exact hbx.cell (i:=3) rfl
  | k + 4,hk => cases hk
 have HB0:=Lib.hid hb0
 have HBX:=Lib.hid hbx
 have HBD:=Lib.hid hB
 have HSM:=Lib.hid hS
 have HPL:=Lib.hid hP
 clear hb0 hbx hB hS hP
 cases hm:mayG G S I J with
 | false =>
  have HM:=Lib.hid hm
  clear hm
  go_enter Tryz.func9,Tryz.ntmps9
  go_wp2_with (first | (refine wp_loadMid rfl 23 (.tmp 14) rfl w.heap.size 0 (gcells G S I J).toList _ rfl hrg Tryz.underlying23 rfl (by kernel_rfl) ?_))
  refine (rmake_no G S I J HM.out _).mono ?_
  rintro e w1 ⟨rfl,hb1⟩
  have HB1:Hid (Below w.heap.size w w1):=HB0.out.trans (hb1.mono HB0.out.size)
  clear hb1 hrg
  go_wp2_with fail
  go_ret
  exact ⟨HB1.out,.inl ⟨HM.out,rfl⟩⟩
 | true =>
  obtain ⟨x,hx,hxm,rfl,rfl,rfl,rfl⟩:=mk_x hm
  have HX:=Lib.hid hx
  have HXM:=Lib.hid hxm
  have hmay:=hx.may
  have HMAY:=Lib.hid hmay
  have hn9:=hx.n_le
  have hn1:2 ≤ x.n:=by have:=hx.n;omega
  have q0:((x.n:Int) == 0) = false:=by simp;omega
  have hni:x.g * x.i ≤ 256:=gi_bd hmay
  have hni4:4 ≤ x.g * x.i:=by have:=mayN hmay;exact Nat.mul_le_mul this.1 this.2.2.2.2.1
  have hnf9:P.nf ≤ 300:=HSM.out.nf
  clear hm hx hxm hmay
  go_enter Tryz.func9,Tryz.ntmps9
  go_wp2_with (first | (refine wp_loadMid rfl 23 (.tmp 14) rfl w.heap.size 0 (gcells x.g x.s x.i x.j).toList _ rfl hrg Tryz.underlying23 rfl (by kernel_rfl) ?_))
  refine (rmake_yes x.g x.s x.i x.j HMAY.out _).mono ?_
  rintro e w1 ⟨q,rfl,hI⟩
  rw [← HX.out.n]
  have HI:Hid (RArr w1 q 32 256 x.n (bkF (mkB x.g x.s x.i x.j))):=by show RArr _ _ _ _ _ _;rw [HX.out.n];exact hI.a
  have hle:=hI.le
  have HB1:Hid (Below w.heap.size w w1):=HB0.out.trans (hI.bel.mono HB0.out.size)
  have HBX1:Hid (At w1 w.heap.size 27 (plRow x.g x.s x.i x.j d P)):=HBX.out.below hI.bel HBX.out.lt
  have hq1:=hI.a.lt
  have hp1:=HBX1.out.lt
  clear HB0 HBX hI hrg
  have hrg:w1.rangeAt w.heap.size 0 (gcells x.g x.s x.i x.j).toList:=fun k v hk => by
   match k,hk with
   | 0,hk => injection hk with hk;subst hk;exact HBX1.out.cell (i:=0) rfl
   | 1,hk => injection hk with hk;subst hk;exact HBX1.out.cell (i:=1) rfl
   | 2,hk => injection hk with hk;subst hk;exact HBX1.out.cell (i:=2) rfl
   | 3,hk => injection hk with hk;subst hk;exact HBX1.out.cell (i:=3) rfl
   | k + 4,hk => cases hk
  go_wp2_with (first | (refine wp_loadMid rfl 23 (.tmp 24) rfl w.heap.size 0 (gcells x.g x.s x.i x.j).toList _ rfl hrg Tryz.underlying23 rfl (by kernel_rfl) ?_))
  have ST0:Hid (Im0 w1.heap.size q w.heap.size x ⟨mkB x.g x.s x.i x.j,0⟩ d P w (w1.alloc (.cells (plcells q x.n x.g x.s x.i x.j 0 false) 85))):=by
   have hb:Below w1.heap.size w1 (w1.alloc (.cells (plcells q x.n x.g x.s x.i x.j 0 false) 85)):=(Below.refl _ _).alloc (Nat.le_refl _) _
   exact ⟨⟨⟨false,At.new _ _ _⟩,HI.out.below hb⟩,HBX1.out.below hb hp1,(HPL.out.below HB1.out).below (hb.mono HB1.out.size),HB1.out.trans (hb.mono HB1.out.size)⟩
  obtain ⟨M,hM⟩:∃ M,M = w1.heap.size:=⟨_,rfl⟩
  have hqM:q ≠ M ∧ w.heap.size ≠ M ∧ w.heap.size < M ∧ w.heap.size < q:=by
   rw [World.size_alloc] at hle
   omega
  rw [← hM] at ST0 ⊢
  clear hM HI HB1 HBX1 hq1 hp1 hrg hle
  refine wp_region_S (Im0 M q w.heap.size x ⟨mkB x.g x.s x.i x.j,0⟩ d P w) (by kernel_rfl) (by kernel_rfl) (ST0.out.below (Below.refl _ _).drew) ?_
  clear ST0
  intro hne
  have hc4:∀ y:InW (Im0 M q w.heap.size x ⟨mkB x.g x.s x.i x.j,0⟩ d P w),y.W.cell? ⟨w.heap.size,4,none⟩ = some (.slice d.fa P.nf d.fc):=fun y => y.h.bx.cell (i:=4) rfl
  repeat (first | go_big_quiet_skip | (go_big_quiet_want;go_big_quiet_op;go_big_quiet_on))
  refine q_load rfl 23 (.tmp 31) rfl w.heap.size 0 rfl (gcells x.g x.s x.i x.j).toList _ (fun W h => h.geo) Tryz.underlying23 rfl (by kernel_rfl) ?_
  refine wpQuiet_frame (by simp only [Act.put,List.setIfInBounds_toArray,List.set_cons_succ,List.set_cons_zero];exact rfl) ?_
  go_big_quiet_want
  go_big_quiet_op
  refine ⟨_,fun s => q_call s (fun W hW => (rInodes5_any x.g x.s x.i x.j HMAY.out hni W).mono fun e w' h => ⟨h.1,hW.below h.2⟩),?_⟩
  go_big_quiet_on
  repeat (first | go_big_quiet_skip | (go_big_quiet_want;go_big_quiet_op;go_big_quiet_on))
  refine wpQuiet_nil ?_
  intro w2 h2'
  have ST:=Lib.hid h2'.out
  clear h2' hne hc4
  obtain ⟨N,hN⟩:∃ N,N = P.n x:=⟨_,rfl⟩
  have hNn:N ≤ P.nf ∧ N + 1 ≤ x.g * x.i:=by rw [hN];unfold PlanD.n Im.ni;omega
  have hmin:min (P.nf:Int) ((x.g:Int) * (x.i:Int) - 1) = (N:Int):=by rw [hN];unfold PlanD.n Im.ni;rw [← Int.natCast_mul];omega
  rw [hmin]
  have HN:=Lib.hid hN
  have hN9:N ≤ 300:=by omega
  obtain ⟨Y,hY⟩:∃ Y,Y = w2.heap.size:=⟨_,rfl⟩
  have hmk1:=fun W => run_mkino N (by omega) W
  have hmk2:=fun W => run_mkslr N (by omega) W
  have HA1:Hid (RArr ((w2.alloc (.cells (madeCells Ino.nil.val.cells ((N + 1) * 16)) 63)).alloc (.cells (madeCells #[.slice none 0 0] (N + 1)) 88)) Y 63 16 (N + 1) (inF7 fun _ => Ino.nil)):=by
   have h1:=RArr.made (m:=16) w2 Ino.nil.val.cells rfl (by decide) (N + 1) 63
   rw [← hY] at h1
   exact (h1.congr fun _ _ => rfl).below ((Below.refl _ _).alloc (Nat.le_refl _) _)
  have HA2:Hid (RArr ((w2.alloc (.cells (madeCells Ino.nil.val.cells ((N + 1) * 16)) 63)).alloc (.cells (madeCells #[.slice none 0 0] (N + 1)) 88)) (Y + 1) 88 1 (N + 1) (fun _ => [.slice none 0 0])):=by
   have h1:=RArr.made (m:=1) (w2.alloc (.cells (madeCells Ino.nil.val.cells ((N + 1) * 16)) 63)) #[.slice none 0 0] rfl (by decide) (N + 1) 88
   rw [World.size_alloc,← hY,Nat.mul_one] at h1
   exact h1
  have hbb:Below w2.heap.size w2 ((w2.alloc (.cells (madeCells Ino.nil.val.cells ((N + 1) * 16)) 63)).alloc (.cells (madeCells #[.slice none 0 0] (N + 1)) 88)):=((Below.refl _ _).alloc (Nat.le_refl _) _).alloc (by simp) _
  have hMY:M < Y ∧ q < Y ∧ w.heap.size < Y:=by
   rw [hY]
   exact ⟨ST.out.pm.lM,ST.out.pm.im.lt,ST.out.bx.lt⟩
  have ST1:Hid (ImC M q Y (N + 1) w.heap.size x ⟨mkB x.g x.s x.i x.j,0⟩ (fun _ => Ino.nil) d P w ((w2.alloc (.cells (madeCells Ino.nil.val.cells ((N + 1) * 16)) 63)).alloc (.cells (madeCells #[.slice none 0 0] (N + 1)) 88))) :=
   ⟨ST.out.pm.below hbb,HA1.out,ST.out.bx.below hbb ST.out.bx.lt,ST.out.r.below (hbb.mono ST.out.bel.size),ST.out.bel.trans (hbb.mono ST.out.bel.size),by omega⟩
  have SL1:Hid (SlU ((w2.alloc (.cells (madeCells Ino.nil.val.cells ((N + 1) * 16)) 63)).alloc (.cells (madeCells #[.slice none 0 0] (N + 1)) 88)) (Y + 2) (Y + 1) (N + 1) (fun _ => []) (fun _ => none) (fun _ => 0)) :=
   ⟨HA2.out,fun t _ => RMine.nil _ _ _ _ _,fun s t _ _ _ => .inl rfl⟩
  have hth:=HA1.out.there (k:=0) (by omega)
  rw [Nat.zero_mul] at hth
  clear hN hmin hbb ST HA1 HA2
  subst hY
  go_wp2_with (first | (refine wp_storeMid rfl 63 (.tmp 44) (.tmp 43) rfl w2.heap.size 0 (⟨2,1,1,0,fun _ => 0,0⟩:Ino).arr.toList rfl rfl hth (by kernel_rfl) (ino_one _) ?_))
  intro w3 hw3
  obtain ⟨ST2',ho3⟩:=ST1.out.putI (i:=0) (by omega) (⟨2,1,1,0,fun _ => 0,0⟩:Ino) (W':=w3) hw3.out
  have ST2:Hid (ImC M q w2.heap.size (N + 1) w.heap.size x ⟨mkB x.g x.s x.i x.j,0⟩ (P.isF N 0).ino d P w w3):=ST2'
  obtain ⟨cy,hcy,-⟩:=ST1.out.y.blk
  have SL2:Hid (SlU w3 (w2.heap.size + 2) (w2.heap.size + 1) (N + 1) (P.isF N 0).sl (fun _ => none) (fun _ => 0)):=SL1.out.only ho3 hcy (by decide) (by omega)
  have hs2:w2.heap.size + 2 ≤ w3.heap.size:=by have:=SL2.out.u.lt;omega
  clear ST1 SL1 ST2' ho3 hcy hth hw3 hmk1 hmk2
  obtain ⟨Y,hY⟩:∃ Y,Y = w2.heap.size:=⟨_,rfl⟩
  rw [← hY] at ST2 SL2 hMY hs2 ⊢
  clear hY
  go_wp2_with fail
  go_loopw [9,10,11,12] (fun u _ _ _ wr => ∃ (k:Nat) (a:Nat → Option Addr) (c:Nat → Nat),k ≤ N ∧ u = .int .i64 ((k:Int) + 1) ∧ ImC M q Y (N + 1) w.heap.size x ⟨mkB x.g x.s x.i x.j,0⟩ (P.isF N k).ino d P w wr ∧ SlU wr (Y + 2) (Y + 1) (N + 1) (P.isF N k).sl a c) (fun u _ _ _ _ => N + 1 - (intOf u).toNat)
  case atStart => exact ⟨0,_,_,Nat.zero_le _,rfl,ST2.out,SL2.out⟩
  case round =>
   clear ST2 SL2
   obtain ⟨k,a,c,hk,rfl,st,sl⟩:=hrel
   have ST:=Lib.hid st
   have SL:=Lib.hid sl
   have c4:wr.cell? ⟨w.heap.size,4,none⟩ = some (.slice d.fa P.nf d.fc):=st.bx.cell (i:=4) rfl
   clear st sl
   by_cases hlt:k < N
   ·have hlt':(k:Int) + 1 ≤ (N:Int):=by omega
    have hkf:k < P.nf:=by omega
    have hkf':(k:Int) < (P.nf:Int):=by omega
    obtain ⟨fb,fo,hfa,-⟩:=ST.out.r.f.cell (j:=0) hkf rfl
    have hrg:wr.rangeAt fb (fo + k * 6) (flR d P k):=fun j v hv => by
     obtain ⟨b',o',e,hc⟩:=ST.out.r.f.cell hkf hv
     rw [hfa] at e;cases e;exact hc
    rw [hfa] at c4
    clear hfa
    have hA0:At (wr.alloc (.cells #[.int .u8 0,.int .i64 0,.slice none 0 0,.slice none 0 0,.bool false,.int .i64 0] 78)) wr.heap.size 78 #[.int .u8 0,.int .i64 0,.slice none 0 0,.slice none 0 0,.bool false,.int .i64 0]:=At.new _ _ _
    go_wp2_with (first | (refine wp_loadMid rfl 78 (.tmp 54) rfl fb (fo + k * 6) (flR d P k) _ rfl hrg Tryz.underlying78 rfl (by kernel_rfl) ?_) | (refine wp_storeAt rfl 78 (.tmp 10) (.tmp 55) rfl wr.heap.size (flR d P k).toArray _ rfl rfl hA0 (info_file k d P) rfl (one_file k d P) ?_))
    intro w4 ha4 ho4
    have IM:=Lib.hid (ImF.start (A:=P.isF N k) ST.out SL.out ha4 ho4)
    clear ST SL ha4 ho4 hA0 hrg c4
    obtain ⟨fb2,hfb⟩:∃ fb2,fb2 = wr.heap.size:=⟨_,rfl⟩
    rw [← hfb] at IM ⊢
    clear hfb
    have k0:w4.cell? ⟨fb2,0,none⟩ = some (.int .u8 (P.f k).kind):=IM.out.fi.cell (i:=0) rfl
    have k5:w4.cell? ⟨fb2,5,none⟩ = some (.int .i64 (P.f k).links):=IM.out.fi.cell (i:=5) rfl
    have k1:w4.cell? ⟨fb2,1,none⟩ = some (.int .i64 (P.f k).size):=IM.out.fi.cell (i:=1) rfl
    have hth:=IM.out.ic.y.there (k:=k + 1) (by omega)
    have hk9:k ≤ 300:=by omega
    have hw1:IntKind.u32.wrap ((k:Int) + 1) = (k:Int) + 1:=IntWalk.u32_in _ (by omega)
    go_wp2_with (first | (refine wp_storeMid rfl 63 (.tmp 67) (.tmp 66) rfl Y ((k + 1) * 16) (⟨(P.f k).kind,(P.f k).links,(k:Int) + 1,(P.f k).size,fun _ => 0,0⟩:Ino).arr.toList rfl rfl hth (by kernel_rfl) (ino_one _) ?_))
    intro w5 hw5
    have IM2:=Lib.hid (IM.out.putI (i:=k + 1) (by omega) (⟨(P.f k).kind,(P.f k).links,(k:Int) + 1,(P.f k).size,fun _ => 0,0⟩:Ino) hw5.out)
    clear hw1
    clear IM hth hw5 k0 k5 k1
    obtain ⟨At',hAt⟩:∃ At':Nat → PlanD.IS,At' = fun t => P.partF N k t:=⟨_,rfl⟩
    have HA0:Hid (At' 0 = { P.isF N k with ino:=updN (P.isF N k).ino (k + 1) ⟨(P.f k).kind,(P.f k).links,((k + 1:Nat):Int),(P.f k).size,fun _ => 0,0⟩ }):=by show _ = _;rw [hAt];rfl
    have HAS:Hid (∀ t,At' (t + 1) = P.nameF N (k + 1) t (At' t)):=fun t => by rw [hAt];rfl
    have HAE:Hid (P.isF N (k + 1) = At' (P.f k).nn):=by show _ = _;rw [hAt];rfl
    have hcn:P.cn (k + 1) ≤ 1000:=Nat.le_trans (PlanD.cn_mono P hkf) HSM.out.cn
    have HAL:Hid (∀ t r,t ≤ (P.f k).nn → ((At' t).sl r).length ≤ 1000):=fun t r ht => by rw [hAt];exact P.part_len N k t r hcn ht
    have hnn9:(P.f k).nn ≤ 1000:=by
     rw [PlanD.cn] at hcn;omega
    clear hcn
    have IM3:Hid (ImF M q Y (N + 1) w.heap.size (Y + 1) fb2 (Y + 2) x ⟨mkB x.g x.s x.i x.j,0⟩ d P k (At' 0) a c w w5):=by show ImF _ _ _ _ _ _ _ _ _ _ _ _ _ _ _ _ _ _;rw [HA0.out];exact IM2.out
    clear IM2 hAt HA0
    go_wp2_with fail
    go_loopw [11,12] (fun u _ wr => ∃ (t:Nat) (a:Nat → Option Addr) (c:Nat → Nat),t ≤ (P.f k).nn ∧ u = .int .i64 (t:Int) ∧ ImF M q Y (N + 1) w.heap.size (Y + 1) fb2 (Y + 2) x ⟨mkB x.g x.s x.i x.j,0⟩ d P k (At' t) a c w wr) (fun u _ _ => (P.f k).nn - (intOf u).toNat)
    case atStart => exact ⟨0,_,_,Nat.zero_le _,rfl,IM3.out⟩
    case round =>
     clear IM3 a c
     obtain ⟨t,a,c,ht,rfl,im⟩:=hrel
     have IM:=Lib.hid im
     have c3:wr.cell? ⟨fb2,3,none⟩ = some (.slice (d.na k) (P.f k).nn (d.nc k)):=im.fi.cell (i:=3) rfl
     clear im
     by_cases hqt:t < (P.f k).nn
     ·have hqt':(t:Int) < ((P.f k).nn:Int):=by omega
      obtain ⟨nb,no,hna,cd⟩:=(IM.out.ic.r.n k hkf).cell (j:=0) hqt rfl
      have HNM:Hid (∀ W,ImC M q Y (N + 1) w.heap.size x ⟨mkB x.g x.s x.i x.j,0⟩ (At' t).ino d P w W → W.cell? ⟨nb,no + t * 2 + 1,none⟩ = some (.string ((P.f k).nm t))):=fun W h => by
       obtain ⟨b',o',e,hc⟩:=(h.r.n k hkf).cell (j:=1) hqt rfl
       rw [hna] at e;cases e;exact hc
      rw [hna] at c3
      have HNA:=Lib.hid hna
      rw [Nat.add_zero] at cd
      clear hna
      obtain ⟨dr,hdr⟩:∃ dr,dr = (P.f k).dir t:=⟨_,rfl⟩
      rw [← hdr] at cd
      have HDR:=Lib.hid hdr
      clear hdr
      have HA1:Hid (At' (t + 1) = if 0 ≤ dr ∧ dr ≤ (N:Int) then ⟨updN (At' t).ino (k + 1) { (At' t).ino (k + 1) with links:=IntKind.i64.wrap (((At' t).ino (k + 1)).links + 1) },updN (At' t).sl dr.toNat ((At' t).sl dr.toNat ++ [(k + 1 + 1,(P.f k).nm t)])⟩ else At' t):=by
       show _ = _
       rw [HAS.out t,PlanD.nameF,Nat.add_sub_cancel,← HDR.out]
      by_cases hin:0 ≤ dr ∧ dr ≤ (N:Int)
      rotate_left
      ·have HA2:Hid (At' (t + 1) = At' t):=by show _ = _;rw [HA1.out,if_neg hin]
       by_cases h0:0 ≤ dr
       ·have hn:¬ dr ≤ (N:Int):=fun h => hin ⟨h0,h⟩
        clear hin
        go_wp2_with fail
        go_roundw
        case rel => first | exact ⟨t + 1,a,c,by omega,by go_num,by rw [HA2.out];exact IM.out⟩ | ((repeat apply Exists.intro);refine ⟨?_,rfl⟩;exact ⟨t + 1,a,c,by omega,by go_num,by rw [HA2.out];exact IM.out⟩)
        case measure => simp [intOf];omega
       ·clear hin
        go_wp2_with fail
        go_roundw
        case rel => first | exact ⟨t + 1,a,c,by omega,by go_num,by rw [HA2.out];exact IM.out⟩ | ((repeat apply Exists.intro);refine ⟨?_,rfl⟩;exact ⟨t + 1,a,c,by omega,by go_num,by rw [HA2.out];exact IM.out⟩)
        case measure => simp [intOf];omega
      obtain ⟨dn,rfl⟩:∃ dn:Nat,dr = (dn:Int):=⟨dr.toNat,by omega⟩
      have hdn:dn < N + 1:=by omega
      have hdn':(dn:Int) < (N:Int) + 1:=by omega
      obtain ⟨hin0,hin1⟩:=hin
      have HA2:Hid (At' (t + 1) = ⟨updN (At' t).ino (k + 1) { (At' t).ino (k + 1) with links:=IntKind.i64.wrap (((At' t).ino (k + 1)).links + 1) },updN (At' t).sl dn ((At' t).sl dn ++ [(k + 1 + 1,(P.f k).nm t)])⟩):=by show _ = _;rw [HA1.out,if_pos ⟨hin0,hin1⟩,Int.toNat_natCast]
      have hw2:IntKind.u32.wrap ((k:Int) + 1 + 1) = (k:Int) + 1 + 1:=IntWalk.u32_in _ (by omega)
      clear HA1
      go_wp2_with fail
      refine wp_region_mb (N19 M q Y (N + 1) w.heap.size (Y + 1) fb2 (Y + 2) x ⟨mkB x.g x.s x.i x.j,0⟩ d P k (At' t) a c dn (k + 1 + 1,(P.f k).nm t) w) ⟨0,undef⟩ 19 (by kernel_rfl) (by kernel_rfl) (by kernel_rfl) (by kernel_rfl) (by kernel_rfl) (by kernel_rfl) (by decide) (N19.start IM.out hdn (Below.refl _ _).drew) ?_
      clear IM c3 cd
      intro hne
      have hcd:∀ y:InW (fun W => ∃ s,N19 M q Y (N + 1) w.heap.size (Y + 1) fb2 (Y + 2) x ⟨mkB x.g x.s x.i x.j,0⟩ d P k (At' t) a c dn (k + 1 + 1,(P.f k).nm t) w s W),y.W.cell? ⟨Y + 1,dn,none⟩ = some (.slice (a dn) ((At' t).sl dn).length (c dn)):=fun y => by
       obtain ⟨_,h⟩:=y.h
       exact h.cell hdn
      have hc3:∀ y:InW (fun W => ∃ s,N19 M q Y (N + 1) w.heap.size (Y + 1) fb2 (Y + 2) x ⟨mkB x.g x.s x.i x.j,0⟩ d P k (At' t) a c dn (k + 1 + 1,(P.f k).nm t) w s W),y.W.cell? ⟨fb2,3,none⟩ = some (.slice (some ⟨nb,no,none⟩) (P.f k).nn (d.nc k)):=fun y => by
       obtain ⟨_,h⟩:=y.h
       rw [← HNA.out];exact h.fi.cell (i:=3) rfl
      have hcs:∀ y:InW (fun W => ∃ s,N19 M q Y (N + 1) w.heap.size (Y + 1) fb2 (Y + 2) x ⟨mkB x.g x.s x.i x.j,0⟩ d P k (At' t) a c dn (k + 1 + 1,(P.f k).nm t) w s W),y.W.cell? ⟨nb,no + t * 2 + 1,none⟩ = some (.string ((P.f k).nm t)):=fun y => by
       obtain ⟨_,h⟩:=y.h
       exact HNM.out _ h.ic
      (refine Mv.lin_take 16 (by kernel_rfl) ?_;simp only [List.take_succ_cons,List.take_zero,List.drop_succ_cons,List.drop_zero])
      repeat (first | go_big_quiet_skip | (go_big_quiet_want;go_big_quiet_op;go_big_quiet_on))
      refine wpQuiet_nil ?_
      refine Mv.lin_build1 rfl _ _ _ _ rfl fun W hW => ⟨_,_,⟨1,.slice (some ⟨W.heap.size,0,none⟩) 1 1⟩,run_slot1 ((k:Int) + 1 + 1) ((P.f k).nm t) W,hW.alloc,?_⟩
      generalize W.heap.size = g0 at *
      clear hW
      refine Mv.frame (by simp only [Act.put,List.setIfInBounds_toArray,List.set_cons_succ,List.set_cons_zero];exact rfl) ?_
      obtain ⟨i0,hi0,hz0,hz1,hz2⟩:=info_parts info_slot'
      refine Mv.lin_append rfl _ _ _ rfl fun W hW => ?_
      have hown:=hW.s0 (by show (1:Nat) < 2;decide)
      obtain ⟨v',w',hr,ho,hg,hv⟩:=run_append_far (P:=Tryz.prog) W (Y + 2) 88 88 90 i0 (.agg #[.int .u32 0,.string ByteArray.empty]) 2 24 Tryz.underlying88 hi0 hz0 hz1 hz2 rfl (by decide) (.slice (a dn) ((At' t).sl dn).length (c dn)) ((At' t).sl dn).length (Cs (slvL ((At' t).sl dn)) ((At' t).sl dn).length) hown ⟨g0,0,none⟩ 1 1 [.int .u32 ((k:Int) + 1 + 1),.string ((P.f k).nm t)] rfl
       (fun j u hj => hW.s1 rfl g0 rfl j u (by show ([.int .u32 ((k + 1 + 1:Nat):Int),.string ((P.f k).nm t)]:List Value)[j]? = some u;rw [show ((k + 1 + 1:Nat):Int) = (k:Int) + 1 + 1 from rfl];exact hj)) (slotOne _ _) (by have:=HAL.out t dn ht;unfold maxLen;omega) (by have:=HAL.out t dn ht;omega) (by have:=hW.u.lt;omega) (by decide)
      refine ⟨v',w',⟨2,v'⟩,hr,hW.app hdn (by omega) hg ho hv,?_⟩
      clear hr ho hg hW hown hv
      refine Mv.frame (by simp only [Act.put,List.setIfInBounds_toArray,List.set_cons_succ,List.set_cons_zero];exact rfl) ?_
      (refine Mv.lin_take 1 (by kernel_rfl) ?_;simp only [List.take_succ_cons,List.take_zero,List.drop_succ_cons,List.drop_zero])
      first | go_big_quiet_skip | (go_big_quiet_want;go_big_quiet_op;go_big_quiet_on)
      refine wpQuiet_nil ?_
      refine Mv.wpLin_nil ?_
      intro w6 h6
      clear hcd hc3 hcs hne
      obtain ⟨ca,cc,rfl⟩:∃ a c,v' = .slice a (((At' t).sl dn).length + 1) c:=RMine.form (h6.s2 rfl).1
      have cd:=h6.cell hdn
      have fd:=h6.u.soft dn
      have IM5:=Lib.hid (h6.fin hdn (by omega))
      have fl:w6.frozen? ⟨Y,(k + 1) * 16 + 1,none⟩ = false:=h6.ic.y.soft _
      have cl:(w6.setCell ⟨Y + 1,dn,none⟩ (.slice ca (((At' t).sl dn).length + 1) cc)).cell? ⟨Y,(k + 1) * 16 + 1,none⟩ = some (.int .i64 ((At' t).ino (k + 1)).links):=IM5.out.ic.links (i:=k + 1) (by omega)
      have IM6:=Lib.hid (IM5.out.putL (i:=k + 1) (by omega) (wrap64 (((At' t).ino (k + 1)).links + 1)))
      clear h6 IM5
      go_wp2_with fail
      have HA3:Hid (At' (t + 1) = ⟨updN (At' t).ino (k + 1) { (At' t).ino (k + 1) with links:=wrap64 (((At' t).ino (k + 1)).links + 1) },updN (At' t).sl dn ((At' t).sl dn ++ [(k + 1 + 1,(P.f k).nm t)])⟩):=by
       show _ = _
       rw [HA2.out,PlanD.wrap64_eq]
      go_roundw
      case rel => first | exact ⟨t + 1,_,_,by omega,by go_num,by rw [HA3.out];exact IM6.out⟩ | ((repeat apply Exists.intro);refine ⟨?_,rfl⟩;exact ⟨t + 1,_,_,by omega,by go_num,by rw [HA3.out];exact IM6.out⟩)
      case measure => simp [intOf];omega
     ·obtain rfl:t = (P.f k).nn:=by omega
      go_wp2_with fail
      go_roundw
      case rel => first | exact ⟨k + 1,a,c,by omega,by first | rfl | go_num,by rw [HAE.out];exact IM.out.ic,by rw [HAE.out];exact IM.out.su⟩ | ((repeat apply Exists.intro);refine ⟨?_,rfl⟩;exact ⟨k + 1,a,c,by omega,by first | rfl | go_num,by rw [HAE.out];exact IM.out.ic,by rw [HAE.out];exact IM.out.su⟩)
      case measure => simp [intOf];omega
   ·obtain rfl:k = N:=by omega
    have hbx:=ST.out.bx
    obtain ⟨F,hF⟩:∃ F,F = P.fill x ⟨(P.isF k k).ino,(P.isF k k).sl⟩ ⟨mkB x.g x.s x.i x.j,0⟩ (k + 1):=⟨_,rfl⟩
    have HE:Hid (P.img x = P.endL x F.m.L F.ino k):=by show _ = _;rw [hF,HN.out];exact P.img_end x
    have HMYB:Hid (∀ j,MY M q Y j → w.heap.size ≤ j):=fun j hj => by rcases hj with rfl | rfl | rfl <;> omega
    have HFI:Hid (HgS M q Y (k + 1) x ⟨mkB x.g x.s x.i x.j,0⟩ (P.isF k k).ino wr wr):=⟨ST.out.pm,ST.out.y,.refl _ _⟩
    have HMYL:Hid (∀ j,MY M q Y j → j < wr.heap.size):=fun j hj => by
     obtain ⟨l1,l2,l3,l4⟩:=ST.out.lts
     rcases hj with rfl | rfl | rfl <;> assumption
    have hcall:=mkFill_any w.heap.size M q Y (k + 1) (Y + 1) x HX.out ⟨mkB x.g x.s x.i x.j,0⟩ (P.isF k k).ino (img_inv HX.out P HBD.out k (k + 1) (by omega)) (by omega) x.g x.s x.i x.j d P HBD.out HSM.out (by omega) a c (P.isF k k).sl
     (fun t _ => ⟨Nat.le_trans (img_len P HSM.out k (by omega) t).1 (by decide),(img_len P HSM.out k (by omega) t).2⟩) wr HFI.out ST.out.r ST.out.bel.size (fun j hj h => by have:=HMYB.out j h;omega) (ST.out.slt SL.out (by omega)) HMYL.out
    rw [← hF] at hcall
    have HFY:Hid (∀ t,(F.ino t).Ok):=fun t => by
     rw [hF]
     exact PlanD.fill_ok P hn9 (fun t => (P.isF_ok HBD.out k k (by omega) t).1) (fun t => Nat.le_trans (img_len P HSM.out k (by omega) t).1 (by decide)) (k + 1) t
    have HC:=Lib.hid hcall
    have HNN:=Lib.hid hNn
    clear hF hcall SL c4
    go_wp2_with (first | (refine wp_loadAtG rfl 27 (.tmp 1) rfl _ _ _ rfl hbx Tryz.underlying27 rfl (info_plan _ _ _ _ _ _) ?_))
    refine HC.out.mono ?_
    rintro e w6 ⟨rfl,hs6,hi6⟩
    have hbx6:At w6 w.heap.size 27 (plRow x.g x.s x.i x.j d P):=hbx.gwS hs6.gr (fun h => by rcases h with h | h | h <;> omega)
    have HS6:Hid (HgS M q Y (k + 1) x F.m F.ino w6 w6):=⟨hs6.p,hs6.y,.refl _ _⟩
    have HB6:Hid (Below w.heap.size w w6):=ST.out.bel.trans (hs6.gr.below ST.out.bel.size HMYB.out)
    have HR6:Hid (PlnR w.heap.size d P w6):=ST.out.r.gwS hs6.gr ST.out.bel.size (fun j hj h => by have:=HMYB.out j h;omega)
    have HI6:=Lib.hid hi6
    have HML6:Hid (∀ j,MY M q Y j → j < w6.heap.size):=fun j hj => Nat.lt_of_lt_of_le (HMYL.out j hj) hs6.gr.size
    clear hs6 hi6 hbx HC ST HFI HMYL
    go_wp2_with (first | (refine wp_loadAtG rfl 27 (.tmp 1) rfl _ _ _ rfl hbx6 Tryz.underlying27 rfl (info_plan _ _ _ _ _ _) ?_))
    refine (mkEnd_any w.heap.size M q Y (k + 1) x HX.out F.m F.ino HI6.out.byt.1 (fun t _ => HFY.out t) (by omega) (by exact HNN.out.2) d P HBD.out HSM.out (by have:=HNN.out.1;omega) w6 HS6.out HR6.out HB6.out.size (fun j hj h => by have:=HMYB.out j h;omega) HML6.out).mono ?_
    rintro e w7 ⟨rfl,hby,hs7⟩
    have HFIN:Hid (ImgPost x.g x.s x.i x.j P w (.returned (.slice (some ⟨q,0,none⟩) x.n x.n)) w7):=by
     refine ⟨HB6.out.trans (hs7.gr.below HB6.out.size HMYB.out),.inr ⟨x,q,HX.out,HXM.out,rfl,rfl,rfl,rfl,rfl,by omega,?_,?_⟩⟩
     ·rw [HE.out];exact hs7.p.im
     ·rw [HE.out];exact hby
    clear hby hs7 hbx6
    go_wp2_with fail
    go_ret
    exact HFIN.out
end Go.Proofs.YtphamecphmbipaaGreatDoor
