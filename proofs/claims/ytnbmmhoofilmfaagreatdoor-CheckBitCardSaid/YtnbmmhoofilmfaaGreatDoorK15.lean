/- Texts of this claim, merged by a program (a claim may have 60 files): Range4, What, What2, Pth, Pk9, Pk10, Pk11, Pk12, Sc0, CopyB, Outside, Sc1, Sc2, Pk13, Pk14. -/
import Derived.Test.YtnbmmhoofilmfaaGreatDoorK02
import Derived.Test.YtnbmmhoofilmfaaGreatDoorK07
import Derived.Test.YtnbmmhoofilmfaaGreatDoorK14
import Derived.Test.YtnbmmhoofilmfaaGreatDoorK09
import Derived.Test.YtnbmmhoofilmfaaGreatDoorK08
import Derived.Deep.QuietTactic
import Derived.Test.YtnbmmhoofilmfaaGreatDoorK13
import Derived.Shelf.Abstract
import Derived.TacticsInMore
import Derived.LoopNIn
import Derived.LoopIn
import Derived.Laws.CopyRow
import Derived.Deep.RegionLaw
import Derived.Test.YtnbmmhoofilmfaaGreatDoorK05
namespace Go.Proofs.YtnbmmhoofilmfaaGreatDoor
open Go.RowKit
variable {P:Program}
theorem LocalP.bel {B:Nat} {X:World → Prop} (h:LocalP B X) {W W':World} (hs:X W) (hb:Below W.heap.size W W'):X W':=h W W' hs ⟨hb.os,hb.tape,hb.output,hb.size,fun k _ hl => hb.block k hl⟩
theorem LocalP.at {B b:Nat} (t:TypeId) (cs:Array Value) (hb:b < B):LocalP B (fun W => At W b t cs):=fun _ _ hs hg => (hg.block b hb (At.lt hs)).trans hs
theorem wp_rangeIx4 {g:Operand} {ps:Array Tmp} {asg bdy:Code} {Q:Exit → Act → World → Prop} {a:Act} {w:World} {gf:Nat} {lb:Array Value}
  (hg:a.eval g = .func (.func gf) #[] lb) (eg:∀ args w,(callFunc gf args).run P w = .ok (.enter gf args) w)
  {encs:Nat → Array Value} {N:Nat} {Need:Nat → World → Prop} (hit:IterIx Fence.wide 4 P gf lb encs N (fun _ => False) Need) (hps:∀ k,(encs k).size = ps.size)
  (T:TypeId) (cs:Nat → Array Value)
  (J:Nat → World → Prop) (Jx:Code → Nat → World → Prop)
  (hJ:∀ k,LocalP w.heap.size (J k)) (hJx:∀ c k,LocalP w.heap.size (Jx c k)) (hN:∀ k,LocalP w.heap.size (Need k)) (h0:J 0 w) (hn0:Need 0 w) (A1:Nat → Nat → Act)
  (assign:∀ (l k:Nat) (W:World) (K:Act → World → Prop),k < N → (∀ p W',p = W.heap.size → Below W.heap.size W W' → At W' p T (cs k) → K (A1 k p) W') →
   asg.wpIn (Fence.wide.inRound l) 3 P (Exit.then K (fun _ _ _ => False)) { tmps:=(ps.zip (encs k)).foldl (fun t (p,v) => t.setIfInBounds p v) a.tmps,defers:=[] } W)
  (body:∀ (l k p:Nat) (W:World),k < N → J k W → Need k W → At W p T (cs k) → bdy.wpIn (Fence.wide.inRound l) 3 P (roundIx w.heap.size J Jx Need k W) (A1 k p) W)
  (done:∀ (D:Nat) (W:World),w.heap.size ≤ D → J N W → W.heap[D]? = some (.deferred (some [])) → Q .normal { a with defers:={ target:=.collected D,args:=#[] } :: a.defers } W)
  (stop:∀ (D:Nat) (c:Code) (k:Nat) (W:World),w.heap.size ≤ D → k < N → Jx c k W → W.heap[D]? = some (.deferred (some [])) → c.wp P Q { a with defers:={ target:=.collected D,args:=#[] } :: a.defers } W) :
  (Code.rangeFunc g ps asg bdy).wp P Q a w:=by
 refine (wpIn_wide (n:=5)).1 ?_
 exact wpIn_rangeIx rfl (by decide) hg trivial eg hit (fun r h => h.elim) hps J Jx (fun k a' W => ∃ p,a' = A1 k p ∧ At W p T (cs k))
  (LocalP.own hJ) (fun c => LocalP.own (hJx c)) (LocalP.own hN)
  (fun a' k W W' row hs hgr hr => by
   obtain ⟨p,he,hA⟩:=hs
   refine ⟨p,he,(hgr.block p hA.lt (fun e => ?_)).trans hA⟩
   obtain ⟨_,o,ho,hc⟩:=hr p e.symm
   have:some (Obj.cells (cs k) T (0,0)) = some o:=hA.symm.trans ho
   injection this with this
   subst this
   cases hc)
  (fun k A C hs ht => (hJ k).turns hs ht) (fun c k A C hs ht => (hJx c k).turns hs ht) h0 hn0
  (fun l k W K hk hj hn hK => assign l k W K hk (fun p W' _ hb hA => hK _ _ (Below.keeps hb) ((hJ k).bel hj hb) ((hN k).bel hn hb) ⟨p,rfl,hA⟩))
  (fun l k a' W hk hj hn ha => by obtain ⟨p,rfl,hA⟩:=ha;exact body l k p W hk hj hn hA)
  done (fun D c k W h1 h2 h3 h4 => wpIn_wide.2 (stop D c k W h1 h2 h3 h4))
end Go.Proofs.YtnbmmhoofilmfaaGreatDoor

namespace Go.Proofs.YtnbmmhoofilmfaaGreatDoor
open Go.RowKit
set_option linter.unusedVariables false
attribute [local go_sem] Oper.semAt_some
theorem ptF_form {g:Nat} {S t J:Int} (h1:16 ≤ S) (h2:S ≤ 512) (h3:0 ≤ t) (h4:3 + t ≤ S) (h5:40 ≤ J) (h6:J ≤ 256) (hg:g ≤ 4) (k:Nat) (hk:k < 3 + 4 * g) :
  ∃ K Gg Fr Sz Pl:Int,ptF S t J k = pcells K Gg Fr Sz Pl ∧ (0 ≤ Fr ∧ 0 ≤ Sz ∧ Fr + Sz ≤ 2 + J + g * S ∧ 0 ≤ Pl ∧ Pl ≤ 512 ∧ Fr + Sz ≤ 4000 ∧ 0 ≤ K ∧ K ≤ 7) ∧
   (k = 0 ∧ Fr + Sz = 1 ∧ K = 1 ∨ k = 1 ∧ Fr + Sz = 2 ∧ K = 2 ∨ k = 2 ∧ Fr + Sz = 2 + J ∧ K = 3 ∨ 3 ≤ k ∧ 2 + J ≤ Fr + Sz ∧ 4 ≤ K ∧ K ≤ 7 ∧ (k + 1 = 3 + 4 * g → Fr + Sz = 2 + J + g * S)):=by
 have hgs0:0 ≤ (g:Int) * S:=Int.mul_nonneg (by omega) (by omega)
 have hgs1:(g:Int) * S ≤ 4 * 512:=Int.mul_le_mul (by omega) h2 (by omega) (by omega)
 by_cases c0:k = 0
 ·subst c0;exact ⟨1,0,0,1,0,rfl,by omega,by omega⟩
 by_cases c1:k = 1
 ·subst c1;exact ⟨2,0,1,1,0,rfl,by omega,by omega⟩
 by_cases c2:k = 2
 ·subst c2;exact ⟨3,0,2,J,0,rfl,by omega,by omega⟩
 obtain ⟨γ,i,hi,rfl⟩:∃ γ i,i < 4 ∧ k = 3 + 4 * γ + i:=⟨(k - 3) / 4,(k - 3) % 4,by omega,by omega⟩
 have hγ:γ + 1 ≤ g:=by omega
 have hm0:0 ≤ (γ:Int) * S:=Int.mul_nonneg (by omega) (by omega)
 have hm1:((γ:Int) + 1) * S ≤ (g:Int) * S:=Int.mul_le_mul_of_nonneg_right (by omega) (by omega)
 rw [Int.add_mul,Int.one_mul] at hm1
 have hlast:γ + 1 = g → (γ:Int) * S + S = (g:Int) * S:=fun e => by rw [← e];rw [show ((γ + 1:Nat):Int) = (γ:Int) + 1 by omega,Int.add_mul,Int.one_mul]
 rw [ptF_at S t J γ hi]
 generalize (γ:Int) * S = a at *
 generalize (g:Int) * S = b at *
 have:i = 0 ∨ i = 1 ∨ i = 2 ∨ i = 3:=by omega
 rcases this with rfl | rfl | rfl | rfl
 ·exact ⟨4,γ,2 + J + a,1,0,rfl,by omega,by omega⟩
 ·exact ⟨5,γ,2 + J + a + 1,1,1,rfl,by omega,by omega⟩
 ·exact ⟨6,γ,2 + J + a + 2,t,2,rfl,by omega,by omega⟩
 ·refine ⟨7,γ,2 + J + a + 2 + t,S - 2 - t,2 + t,rfl,by omega,.inr (.inr (.inr ⟨by omega,by omega,by omega,by omega,fun e => ?_⟩))⟩
  have:=hlast (by omega)
  omega
theorem At.setCell {w:World} {g:Nat} {T:TypeId} {cs:Array Value} (h:At w g T cs) (i:Nat) (v:Value):At (w.setCell ⟨g,i,none⟩ v) g T (cs.setIfInBounds i v):=by
 obtain ⟨hlt,hk⟩:=Array.getElem?_eq_some_iff.1 h
 show (w.heap.modify g _)[g]? = _
 rw [Array.getElem?_eq_getElem (by rw [Array.size_modify];exact hlt),Array.getElem_modify_self,hk]
 rfl
structure WhS (w:World) (G S I J x K A B:Int) (W:World):Prop where
 g:At W w.heap.size 23 (gcells G S I J)
 x:At W (w.heap.size + 1) 3 #[.int .i64 x]
 k:At W (w.heap.size + 2) 5 #[.int .u8 K]
 a:At W (w.heap.size + 3) 3 #[.int .i64 A]
 b:At W (w.heap.size + 4) 3 #[.int .i64 B]
 bel:Below w.heap.size w W
section
variable {w:World} {G S I J x K A B:Int} {W W':World}
theorem WhS.below (h:WhS w G S I J x K A B W) (hb:Below W.heap.size W W'):WhS w G S I J x K A B W':=⟨h.g.below hb h.g.lt,h.x.below hb h.x.lt,h.k.below hb h.k.lt,h.a.below hb h.a.lt,h.b.below hb h.b.lt,h.bel.trans (hb.mono h.bel.size)⟩
theorem WhS.sz (h:WhS w G S I J x K A B W):w.heap.size + 5 ≤ W.heap.size:=h.b.lt
theorem WhS.setK (h:WhS w G S I J x K A B W) (v:Int):WhS w G S I J x v A B (W.setCell ⟨w.heap.size + 2,0,none⟩ (.int .u8 v)) :=
 have ho:=Only.setCell W ⟨w.heap.size + 2,0,none⟩ (.int .u8 v)
 ⟨h.g.only ho (by simp),h.x.only ho (by simp),h.k.setCell 0 _,h.a.only ho (by simp),h.b.only ho (by simp),h.bel.trans (ho.below (by simp))⟩
theorem WhS.setA (h:WhS w G S I J x K A B W) (v:Int):WhS w G S I J x K v B (W.setCell ⟨w.heap.size + 3,0,none⟩ (.int .i64 v)) :=
 have ho:=Only.setCell W ⟨w.heap.size + 3,0,none⟩ (.int .i64 v)
 ⟨h.g.only ho (by simp),h.x.only ho (by simp),h.k.only ho (by simp),h.a.setCell 0 _,h.b.only ho (by simp),h.bel.trans (ho.below (by simp))⟩
theorem WhS.setB (h:WhS w G S I J x K A B W) (v:Int):WhS w G S I J x K A v (W.setCell ⟨w.heap.size + 4,0,none⟩ (.int .i64 v)) :=
 have ho:=Only.setCell W ⟨w.heap.size + 4,0,none⟩ (.int .i64 v)
 ⟨h.g.only ho (by simp),h.x.only ho (by simp),h.k.only ho (by simp),h.a.only ho (by simp),h.b.setCell 0 _,h.bel.trans (ho.below (by simp))⟩
theorem WhS.loc {B0:Nat} (hB:w.heap.size + 5 ≤ B0):LocalP B0 (WhS w G S I J x K A B):=fun A' C hs hg =>
 ⟨LocalP.at _ _ (by omega) A' C hs.g hg,LocalP.at _ _ (by omega) A' C hs.x hg,LocalP.at _ _ (by omega) A' C hs.k hg,LocalP.at _ _ (by omega) A' C hs.a hg,LocalP.at _ _ (by omega) A' C hs.b hg,LocalP.below w (by omega) (Nat.le_refl _) A' C hs.bel hg⟩
end
theorem parts_any (G S I J:Int) (w:World):Calls Tryz.prog 52 #[gval G S I J] w fun e w' => e = .returned (.func (.func 109) #[] #[.pointer (some ⟨w.heap.size,0,none⟩)]) ∧ At w' w.heap.size 23 (gcells G S I J) ∧ Below w.heap.size w w':=by
 have hA:=Lib.hid (At.new w 23 (gcells G S I J))
 have hL:Hid (Below w.heap.size w (w.alloc (.cells (gcells G S I J) 23))):=(Below.refl _ _).alloc (Nat.le_refl _) _
 go_enter Tryz.func52,Tryz.ntmps52
 go_wp2_with fail
 go_ret
 exact ⟨rfl,hA.out,hL.out⟩
structure WhC (w:World) (G S I J x K A B:Int) (p:Nat) (cs:Array Value) (B0:Nat) (W0:World) (t:Mv.St) (W:World):Prop where
 s:WhS w G S I J x (if t.n ≥ 1 then K else 0) (if t.n ≥ 2 then A else 0) (if t.n ≥ 3 then B else 0) W
 p:At W p 126 cs
 keep:KeepsFrom B0 W0 W
section
variable {w:World} {G S I J x K A B:Int} {p:Nat} {cs:Array Value} {B0:Nat} {W0 W:World}
theorem At.unlike {W:World} {p q:Nat} {T U:TypeId} {cs ds:Array Value} (h:At W p T cs) (k:At W q U ds) (hT:T ≠ U):p ≠ q:=by
 intro e
 subst e
 have:=h.symm.trans k
 injection this with this
 injection this with _ h2 _
 exact hT h2
theorem WhC.s1 (h:WhC w G S I J x K A B p cs B0 W0 ⟨0,undef⟩ W):WhC w G S I J x K A B p cs B0 W0 ⟨1,undef⟩ (W.setCell ⟨w.heap.size + 2,0,none⟩ (.int .u8 K)) :=
 have ho:=Only.setCell W ⟨w.heap.size + 2,0,none⟩ (.int .u8 K)
 ⟨h.s.setK K,h.p.only ho (At.unlike h.p h.s.k (by decide)),h.keep.trans (ho.keeps (h.s.k.cell (i:=0) rfl))⟩
theorem WhC.s2 (h:WhC w G S I J x K A B p cs B0 W0 ⟨1,undef⟩ W):WhC w G S I J x K A B p cs B0 W0 ⟨2,undef⟩ (W.setCell ⟨w.heap.size + 3,0,none⟩ (.int .i64 A)) :=
 have ho:=Only.setCell W ⟨w.heap.size + 3,0,none⟩ (.int .i64 A)
 ⟨h.s.setA A,h.p.only ho (At.unlike h.p h.s.a (by decide)),h.keep.trans (ho.keeps (h.s.a.cell (i:=0) rfl))⟩
theorem WhC.s3 (h:WhC w G S I J x K A B p cs B0 W0 ⟨2,undef⟩ W):WhC w G S I J x K A B p cs B0 W0 ⟨3,undef⟩ (W.setCell ⟨w.heap.size + 4,0,none⟩ (.int .i64 B)) :=
 have ho:=Only.setCell W ⟨w.heap.size + 4,0,none⟩ (.int .i64 B)
 ⟨h.s.setB B,h.p.only ho (At.unlike h.p h.s.b (by decide)),h.keep.trans (ho.keeps (h.s.b.cell (i:=0) rfl))⟩
end
theorem info_i64:(Tryz.prog.info? 3).map (·.size) = some 1:=by kernel_rfl
end Go.Proofs.YtnbmmhoofilmfaaGreatDoor

namespace Go.Proofs.YtnbmmhoofilmfaaGreatDoor
open Go.RowKit
set_option linter.unusedVariables false
attribute [local go_sem] Oper.semAt_some
def frF (S t J:Int) (k:Nat):Int :=
 if k = 0 then 0 else if k = 1 then 1 else if k = 2 then 2 else
 2 + J + (((k - 3) / 4:Nat):Int) * S + (if (k - 3) % 4 = 0 then 0 else if (k - 3) % 4 = 1 then 1 else if (k - 3) % 4 = 2 then 2 else 2 + t)
theorem frF_at (S t J:Int) (γ:Nat) {i:Nat} (hi:i < 4):frF S t J (3 + 4 * γ + i) = 2 + J + (γ:Int) * S + (if i = 0 then 0 else if i = 1 then 1 else if i = 2 then 2 else 2 + t):=by
 have e1:(3 + 4 * γ + i - 3) % 4 = i:=by omega
 have e2:(3 + 4 * γ + i - 3) / 4 = γ:=by omega
 unfold frF
 rw [if_neg (by omega),if_neg (by omega),if_neg (by omega),e1,e2]
theorem frF_end (S t J:Int) (g:Nat):frF S t J (3 + 4 * g) = 2 + J + (g:Int) * S:=by
 have:=frF_at S t J g (i:=0) (by omega)
 rw [Nat.add_zero,if_pos rfl,Int.add_zero] at this
 exact this
theorem ptF_fr {g:Nat} {S t J:Int} (h1:16 ≤ S) (h2:S ≤ 512) (h3:0 ≤ t) (h4:3 + t ≤ S) (h5:40 ≤ J) (h6:J ≤ 256) (hg:g ≤ 4) (k:Nat) (hk:k < 3 + 4 * g) :
  ∃ K Gg Sz Pl:Int,ptF S t J k = pcells K Gg (frF S t J k) Sz Pl ∧ (0 ≤ frF S t J k ∧ 0 ≤ Sz ∧ 0 ≤ Pl ∧ Pl ≤ 512 ∧ frF S t J k + Sz ≤ 4000 ∧ 0 ≤ K ∧ K ≤ 7) ∧ frF S t J k + Sz = frF S t J (k + 1):=by
 have hgs1:(g:Int) * S ≤ 4 * 512:=Int.mul_le_mul (by omega) h2 (by omega) (by omega)
 by_cases c0:k = 0
 ·subst c0;exact ⟨1,0,1,0,rfl,by show (0:Int) ≤ 0 ∧ (0:Int) ≤ 1 ∧ (0:Int) ≤ 0 ∧ (0:Int) ≤ 512 ∧ (0:Int) + 1 ≤ 4000 ∧ (0:Int) ≤ 1 ∧ (1:Int) ≤ 7;decide,rfl⟩
 by_cases c1:k = 1
 ·subst c1;exact ⟨2,0,1,0,rfl,by show (0:Int) ≤ 1 ∧ (0:Int) ≤ 1 ∧ (0:Int) ≤ 0 ∧ (0:Int) ≤ 512 ∧ (1:Int) + 1 ≤ 4000 ∧ (0:Int) ≤ 2 ∧ (2:Int) ≤ 7;decide,rfl⟩
 by_cases c2:k = 2
 ·subst c2
  have:frF S t J 3 = 2 + J:=by have:=frF_end S t J 0;simpa using this
  exact ⟨3,0,J,0,rfl,by show (0:Int) ≤ 2 ∧ 0 ≤ J ∧ (0:Int) ≤ 0 ∧ (0:Int) ≤ 512 ∧ 2 + J ≤ 4000 ∧ (0:Int) ≤ 3 ∧ (3:Int) ≤ 7;omega,by rw [this];rfl⟩
 obtain ⟨γ,i,hi,rfl⟩:∃ γ i,i < 4 ∧ k = 3 + 4 * γ + i:=⟨(k - 3) / 4,(k - 3) % 4,by omega,by omega⟩
 have hm0:0 ≤ (γ:Int) * S:=Int.mul_nonneg (by omega) (by omega)
 have hm1:((γ:Int) + 1) * S ≤ (g:Int) * S:=Int.mul_le_mul_of_nonneg_right (by omega) (by omega)
 rw [Int.add_mul,Int.one_mul] at hm1
 have f0:=frF_at S t J γ (i:=0) (by omega)
 have f1:=frF_at S t J γ (i:=1) (by omega)
 have f2:=frF_at S t J γ (i:=2) (by omega)
 have f3:=frF_at S t J γ (i:=3) (by omega)
 have f4:frF S t J (3 + 4 * γ + 3 + 1) = 2 + J + (γ:Int) * S + S:=by
  have:=frF_end S t J (γ + 1)
  rw [show 3 + 4 * γ + 3 + 1 = 3 + 4 * (γ + 1) by omega,this,show ((γ + 1:Nat):Int) = (γ:Int) + 1 by omega,Int.add_mul,Int.one_mul]
  omega
 rw [ptF_at S t J γ hi]
 simp only [if_true,Nat.add_zero,Nat.reduceEqDiff,if_false,Int.add_zero] at f0 f1 f2 f3
 generalize (γ:Int) * S = a at *
 generalize (g:Int) * S = b at *
 have:i = 0 ∨ i = 1 ∨ i = 2 ∨ i = 3:=by omega
 rcases this with rfl | rfl | rfl | rfl
 ·rw [Nat.add_zero,show 3 + 4 * γ + 1 = 3 + 4 * γ + 1 from rfl,f0,f1]
  exact ⟨4,γ,1,0,rfl,by omega,by omega⟩
 ·rw [show 3 + 4 * γ + 1 + 1 = 3 + 4 * γ + 2 from rfl,f1,f2]
  refine ⟨5,γ,1,1,rfl,by omega,by omega⟩
 ·rw [show 3 + 4 * γ + 2 + 1 = 3 + 4 * γ + 3 from rfl,f2,f3]
  exact ⟨6,γ,t,2,rfl,by omega,by omega⟩
 ·rw [f3,f4]
  exact ⟨7,γ,S - 2 - t,2 + t,by rw [if_neg (by decide),if_neg (by decide),if_neg (by decide)];unfold pcells;rw [Int.add_assoc (2 + J + a)],by omega,by omega⟩
def WhatIs (G S I J x K A B:Int):Prop:=((mayG G S I J = false ∨ x < 0 ∨ nBl G S I J ≤ x) ∧ K = 0 ∧ A = 0 ∧ B = 0) ∨
 (mayG G S I J = true ∧ ∃ (k:Nat) (Sz Pl:Int),(k:Int) < 3 + 4 * G ∧ ptF S (I / 4) J k = pcells K A (frF S (I / 4) J k) Sz Pl ∧ frF S (I / 4) J k ≤ x ∧ x < frF S (I / 4) J (k + 1) ∧ B = Pl + x - frF S (I / 4) J k)
set_option maxRecDepth 100000 in
set_option maxHeartbeats 4000000 in
theorem what2_any (G S I J x:Int) (hx0:-9223372036854775808 ≤ x) (hx1:x ≤ 9223372036854775807) (w:World) :
  Calls Tryz.prog 20 #[gval G S I J,.int .i64 x] w fun e w' => ∃ K A B:Int,e = .returned (.tuple #[.int .u8 K,.int .i64 A,.int .i64 B]) ∧ WhatIs G S I J x K A B ∧ Below w.heap.size w w':=by
 refine (callsIn_wide (n:=5)).1 (callsIn_of_wp_marks Tryz.func20 rfl trivial ?_ rfl)
 refine wpIn_wide.2 ?_
 simp only [Tryz.ntmps20,List.size_toArray,List.length_cons,List.length_nil,Nat.reduceAdd,Nat.reduceSub,Array.replicate_succ,Array.replicate_zero,List.push_toArray,List.append_toArray,List.nil_append,List.cons_append]
 obtain ⟨W,hW⟩:∃ W,W = ((((w.alloc (.cells (gcells G S I J) 23)).alloc (.cells #[.int .i64 x] 3)).alloc (.cells #[.int .u8 0] 5)).alloc (.cells #[.int .i64 0] 3)).alloc (.cells #[.int .i64 0] 3):=⟨_,rfl⟩
 have st0:WhS w G S I J x 0 0 0 W:=by
  rw [hW]
  refine ⟨((((At.new w _ _).alloc _).alloc _).alloc _).alloc _,?_,?_,?_,?_,((((((Below.refl _ _).alloc (Nat.le_refl _) _).alloc (by simp) _).alloc (by simp;omega) _).alloc (by simp;omega) _).alloc (by simp;omega) _)⟩
  ·have:=(((At.new (w.alloc (.cells (gcells G S I J) 23)) 3 #[.int .i64 x]).alloc (.cells #[.int .u8 0] 5)).alloc (.cells #[.int .i64 0] 3)).alloc (.cells #[.int .i64 0] 3)
   simp only [World.size_alloc] at this;exact this
  ·have:=((At.new ((w.alloc (.cells (gcells G S I J) 23)).alloc (.cells #[.int .i64 x] 3)) 5 #[.int .u8 0]).alloc (.cells #[.int .i64 0] 3)).alloc (.cells #[.int .i64 0] 3)
   simp only [World.size_alloc] at this;exact this
  ·have:=(At.new (((w.alloc (.cells (gcells G S I J) 23)).alloc (.cells #[.int .i64 x] 3)).alloc (.cells #[.int .u8 0] 5)) 3 #[.int .i64 0]).alloc (.cells #[.int .i64 0] 3)
   simp only [World.size_alloc] at this;exact this
  ·have:=At.new ((((w.alloc (.cells (gcells G S I J) 23)).alloc (.cells #[.int .i64 x] 3)).alloc (.cells #[.int .u8 0] 5)).alloc (.cells #[.int .i64 0] 3)) 3 #[.int .i64 0]
   simp only [World.size_alloc] at this;exact this
 have HW:=Lib.hid hW
 have hg0:=st0.g
 rw [hW] at hg0
 have ST0:=Lib.hid st0
 clear hW st0
 go_wp2_with (first | (refine wp_loadAtG rfl 23 (.tmp 2) rfl _ _ _ rfl hg0 Tryz.underlying23 rfl (by kernel_rfl) ?_))
 rw [← HW.out]
 clear HW hg0
 refine (geoMay_any G S I J W).mono ?_
 rintro e w1 ⟨rfl,hb1⟩
 have ST1:=Lib.hid (ST0.out.below hb1)
 clear ST0 hb1
 have cx:w1.cell? ⟨w.heap.size + 1,0,none⟩ = some (.int .i64 x):=ST1.out.x.cell (i:=0) rfl
 have c2:w1.cell? ⟨w.heap.size + 1 + 1,0,none⟩ = some (.int .u8 0):=ST1.out.k.cell (i:=0) rfl
 have c3:w1.cell? ⟨w.heap.size + 1 + 1 + 1,0,none⟩ = some (.int .i64 0):=ST1.out.a.cell (i:=0) rfl
 have c4:w1.cell? ⟨w.heap.size + 1 + 1 + 1 + 1,0,none⟩ = some (.int .i64 0):=ST1.out.b.cell (i:=0) rfl
 have f2:w1.frozen? ⟨w.heap.size + 1 + 1,0,none⟩ = false:=soft_of_heap ST1.out.k 0
 have f3:w1.frozen? ⟨w.heap.size + 1 + 1 + 1,0,none⟩ = false:=soft_of_heap ST1.out.a 0
 have f4:w1.frozen? ⟨w.heap.size + 1 + 1 + 1 + 1,0,none⟩ = false:=soft_of_heap ST1.out.b 0
 cases hm:mayG G S I J with
 | false =>
  have HO:Hid (WhatIs G S I J x 0 0 0):=.inl ⟨.inl hm,rfl,rfl,rfl⟩
  clear hm
  go_wp2_with fail
  have hst:=((ST1.out.setK 0).setA 0).setB 0
  have r2:=hst.k.cell (i:=0) (v:=.int .u8 0) rfl
  have r3:=hst.a.cell (i:=0) (v:=.int .i64 0) rfl
  have r4:=hst.b.cell (i:=0) (v:=.int .i64 0) rfl
  refine bodyPostM_early (v:=.tuple #[.int .u8 0,.int .i64 0,.int .i64 0]) ?_ ⟨0,0,0,rfl,HO.out,hst.bel⟩
  simp only [Nat.add_assoc,Nat.reduceAdd] at *
  simp [results,Tryz.f20,go_sem,r2,r3,r4]
 | true =>
 have HM:=Lib.hid hm
 clear hm
 by_cases hneg:x < 0
 ·have HO:Hid (WhatIs G S I J x 0 0 0):=.inl ⟨.inr (.inl hneg),rfl,rfl,rfl⟩
  go_wp2_with fail
  have hst:=((ST1.out.setK 0).setA 0).setB 0
  have r2:=hst.k.cell (i:=0) (v:=.int .u8 0) rfl
  have r3:=hst.a.cell (i:=0) (v:=.int .i64 0) rfl
  have r4:=hst.b.cell (i:=0) (v:=.int .i64 0) rfl
  refine bodyPostM_early (v:=.tuple #[.int .u8 0,.int .i64 0,.int .i64 0]) ?_ ⟨0,0,0,rfl,HO.out,hst.bel⟩
  simp only [Nat.add_assoc,Nat.reduceAdd] at *
  simp [results,Tryz.f20,go_sem,r2,r3,r4]
 have hg1:=ST1.out.g
 clear c2 c3 c4 f2 f3 f4
 go_wp2_with (first | (refine wp_loadAtG rfl 23 (.tmp 2) rfl _ _ _ rfl hg1 Tryz.underlying23 rfl (by kernel_rfl) ?_))
 refine (parts_any G S I J w1).mono ?_
 rintro e w2 ⟨rfl,hA2,hb2⟩
 have ST2:=Lib.hid (ST1.out.below hb2)
 have hB1:=ST1.out.sz
 have hB2:=hA2.lt
 clear ST1 hg1 cx hb2
 generalize w1.heap.size = B at *
 clear w1
 obtain ⟨h1,h2,h3,h4,h5,h6,h7,h8,h9,h10,h11⟩:=(mayG_iff G S I J).1 HM.out
 obtain ⟨g,rfl⟩:∃ g:Nat,G = (g:Int):=⟨G.toNat,by omega⟩
 have hnb:nBl (g:Int) S I J = 2 + J + (g:Int) * S:=by unfold nBl;rw [HM.out];rfl
 go_wp2_with fail
 apply wp_rangeIx4 (gf:=109) (lb:=#[.pointer (some ⟨B,0,none⟩)]) rfl (enters_of Tryz.func109 (by kernel_rfl) rfl)
  (parts_iter 4 (by decide) B g S I J HM.out) (fun k => rfl) 126 (fun k => ptF S (I / 4) J k)
  (fun k W => Hid (frF S (I / 4) J k ≤ x) ∧ WhS w g S I J x 0 0 0 W)
  (fun c k W => c = .ret ∧ ∃ K A B,Hid (WhatIs g S I J x K A B) ∧ WhS w g S I J x K A B W)
  (fun k => (LocalP.pure _ _).and (WhS.loc (by omega)))
  (fun c k => (LocalP.pure _ _).and (LocalP.ex fun K => LocalP.ex fun A => LocalP.ex fun B => (LocalP.pure _ _).and (WhS.loc (by omega))))
  (fun k => LocalP.at _ _ hB2)
  ⟨(show (0:Int) ≤ x by omega),ST2.out⟩ hA2
 case assign =>
  intro l k W K hk hK
  dsimp only
  have HF:=Lib.hid (ptF_form (g:=g) (t:=I / 4) h3 h4 (by omega) h10 h8 h9 (by omega) k (by rwa [Int.toNat_natCast] at hk))
  have hcsz:(ptF S (I / 4) J k).size = 5:=by obtain ⟨K',Gg,Fr,Sz,Pl,he,_⟩:=HF.out;rw [he];rfl
  have hc1:(ptF S (I / 4) J k).all (·.oneCell') = true:=by obtain ⟨K',Gg,Fr,Sz,Pl,he,_⟩:=HF.out;rw [he];exact all_p _ _ _ _ _
  have hinf:(Tryz.prog.info? 126).map (·.size) = some (ptF S (I / 4) J k).size:=by rw [hcsz];exact info_part
  have hA:=At.new W 126 (pcells 0 0 0 0 0)
  have hal:=zero_part
  have hs0:(pcells 0 0 0 0 0).size = (ptF S (I / 4) J k).size:=by rw [hcsz];rfl
  clear hcsz hk
  gi_wp2_with (first | (refine wpIn_storeAt rfl 126 (.tmp 7) (.tmp 17) rfl W.heap.size (ptF S (I / 4) J k) (pcells 0 0 0 0 0) rfl rfl hA hinf hs0 hc1 ?_))
  intro w4 hA4 ho4
  have hb:=storedP ho4
  clear ho4 hA
  obtain ⟨p,hp⟩:∃ p,p = W.heap.size:=⟨_,rfl⟩
  rw [← hp] at hA4 ⊢
  gi_wp2
  exact hK p w4 hp hb hA4
 case body =>
  rintro l k p W hk ⟨HP,st⟩ hn hp
  rw [Int.toNat_natCast] at hk
  obtain ⟨K,Gg,Sz,Pl,he,⟨b1,b2,b4,b5,b6,b7,b8⟩,hcase⟩:=ptF_fr (g:=g) (t:=I / 4) h3 h4 (by omega) h10 h8 h9 (by omega) k hk
  have HE:=Lib.hid he
  obtain ⟨Fr,hFr⟩:∃ Fr,frF S (I / 4) J k = Fr:=⟨_,rfl⟩
  have HFR:=Lib.hid hFr
  rw [hFr] at he hcase b1 b6 HP HE
  clear hFr
  rw [he] at hp
  have HC:=Lib.hid hcase
  have cx:W.cell? ⟨w.heap.size + 1,0,none⟩ = some (.int .i64 x):=st.x.cell (i:=0) rfl
  have p2:W.cell? ⟨p,2,none⟩ = some (.int .i64 Fr):=hp.cell (i:=2) rfl
  have p3:W.cell? ⟨p,3,none⟩ = some (.int .i64 Sz):=hp.cell (i:=3) rfl
  have e0:IntKind.i64.wrap (Fr + Sz) = Fr + Sz:=IntWalk.i64_in _ (by omega)
  have ST:=Lib.hid st
  have HN:=Lib.hid hn
  have HPP:=Lib.hid hp
  clear hcase st hn hp
  by_cases hlt:x < Fr + Sz
  ·have HO:Hid (WhatIs g S I J x K Gg (Pl + x - Fr)):=.inr ⟨HM.out,k,Sz,Pl,by omega,by rw [HFR.out];exact HE.out,by rw [HFR.out];exact HP.out,by rw [← HC.out];exact hlt,by rw [HFR.out]⟩
   have e1:IntKind.i64.wrap (Pl + x) = Pl + x:=IntWalk.i64_in _ (by omega)
   have e2:IntKind.i64.wrap (Pl + x - Fr) = Pl + x - Fr:=IntWalk.i64_in _ (by omega)
   gi_wp2
   refine Mv.wpIn_region_mc (WhC w g S I J x K Gg (Pl + x - Fr) p (pcells K Gg Fr Sz Pl) w2.heap.size W) ⟨0,undef⟩ (by kernel_rfl) (by kernel_rfl) (by kernel_rfl) (by kernel_rfl) ?_ ?_
   ·exact ⟨⟨ST.out.g,ST.out.x,ST.out.k,ST.out.a,ST.out.b,ST.out.bel.drew⟩,HPP.out,drewN_keeps W 1⟩
   intro hne
   have hp0:∀ y:InW (fun W' => ∃ s,WhC w g S I J x K Gg (Pl + x - Fr) p (pcells K Gg Fr Sz Pl) w2.heap.size W s W'),y.W.cell? ⟨p,0,none⟩ = some (.int .u8 K):=fun y => by obtain ⟨s,h⟩:=y.h;exact h.p.cell (i:=0) rfl
   have hp1:∀ y:InW (fun W' => ∃ s,WhC w g S I J x K Gg (Pl + x - Fr) p (pcells K Gg Fr Sz Pl) w2.heap.size W s W'),y.W.cell? ⟨p,1,none⟩ = some (.int .i64 Gg):=fun y => by obtain ⟨s,h⟩:=y.h;exact h.p.cell (i:=1) rfl
   have hp2:∀ y:InW (fun W' => ∃ s,WhC w g S I J x K Gg (Pl + x - Fr) p (pcells K Gg Fr Sz Pl) w2.heap.size W s W'),y.W.cell? ⟨p,2,none⟩ = some (.int .i64 Fr):=fun y => by obtain ⟨s,h⟩:=y.h;exact h.p.cell (i:=2) rfl
   have hp4:∀ y:InW (fun W' => ∃ s,WhC w g S I J x K Gg (Pl + x - Fr) p (pcells K Gg Fr Sz Pl) w2.heap.size W s W'),y.W.cell? ⟨p,4,none⟩ = some (.int .i64 Pl):=fun y => by obtain ⟨s,h⟩:=y.h;exact h.p.cell (i:=4) rfl
   have hpx:∀ y:InW (fun W' => ∃ s,WhC w g S I J x K Gg (Pl + x - Fr) p (pcells K Gg Fr Sz Pl) w2.heap.size W s W'),y.W.cell? ⟨w.heap.size + 1,0,none⟩ = some (.int .i64 x):=fun y => by obtain ⟨s,h⟩:=y.h;exact h.s.x.cell (i:=0) rfl
   (refine Mv.lin_take 11 (by kernel_rfl) ?_;simp only [List.take_succ_cons,List.take_zero,List.drop_succ_cons,List.drop_zero])
   first | go_big_quiet_skip | (go_big_quiet_want;go_big_quiet_op;go_big_quiet_on)
   first | go_big_quiet_skip | (go_big_quiet_want;go_big_quiet_op;go_big_quiet_on)
   first | go_big_quiet_skip | (go_big_quiet_want;go_big_quiet_op;go_big_quiet_on)
   first | go_big_quiet_skip | (go_big_quiet_want;go_big_quiet_op;go_big_quiet_on)
   first | go_big_quiet_skip | (go_big_quiet_want;go_big_quiet_op;go_big_quiet_on)
   first | go_big_quiet_skip | (go_big_quiet_want;go_big_quiet_op;go_big_quiet_on)
   first | go_big_quiet_skip | (go_big_quiet_want;go_big_quiet_op;go_big_quiet_on)
   first | go_big_quiet_skip | (go_big_quiet_want;go_big_quiet_op;go_big_quiet_on)
   first | go_big_quiet_skip | (go_big_quiet_want;go_big_quiet_op;go_big_quiet_on)
   first | go_big_quiet_skip | (go_big_quiet_want;go_big_quiet_op;go_big_quiet_on)
   first | go_big_quiet_skip | (go_big_quiet_want;go_big_quiet_op;go_big_quiet_on)
   refine wpQuiet_nil ?_
   refine Mv.lin_store1 rfl 5 (.tmp 4) (.tmp 26) rfl (w.heap.size + 1 + 1) 0 (.int .u8 K) rfl rfl info_u8 rfl ⟨1,undef⟩ (fun W' hW => ⟨⟨_,hW.s.k.cell (i:=0) rfl⟩,soft_of_heap hW.s.k 0,hW.s1⟩) ?_
   refine Mv.frame (by simp only [Act.put];exact rfl) ?_
   refine Mv.lin_store1 rfl 3 (.tmp 5) (.tmp 28) rfl (w.heap.size + 1 + 1 + 1) 0 (.int .i64 Gg) rfl rfl info_i64 rfl ⟨2,undef⟩ (fun W' hW => ⟨⟨_,hW.s.a.cell (i:=0) rfl⟩,soft_of_heap hW.s.a 0,hW.s2⟩) ?_
   refine Mv.frame (by simp only [Act.put];exact rfl) ?_
   refine Mv.lin_store1 rfl 3 (.tmp 6) (.tmp 35) rfl (w.heap.size + 1 + 1 + 1 + 1) 0 (.int .i64 (Pl + x - Fr)) rfl rfl info_i64 rfl ⟨3,undef⟩ (fun W' hW => ⟨⟨_,hW.s.b.cell (i:=0) rfl⟩,soft_of_heap hW.s.b 0,hW.s3⟩) ?_
   refine Mv.frame (by simp only [Act.put];exact rfl) ?_
   refine Mv.wpLin_nil ?_
   intro W5 h5
   clear hne hp0 hp1 hp2 hp4 hpx
   gi_wp2
   exact ⟨h5.keep,rfl,K,Gg,_,HO,h5.s⟩
  ·have hpast:Hid (frF S (I / 4) J (k + 1) ≤ x):=by show _ ≤ _;rw [← HC.out];omega
   gi_wp2
   exact ⟨KeepsFrom.refl _ _,⟨hpast,ST.out⟩,HN.out⟩
 case done =>
  rintro D W hD ⟨HP,st⟩ hK
  have HO:Hid (WhatIs g S I J x 0 0 0):=.inl ⟨.inr (.inr (by
   have:=HP.out
   rw [Int.toNat_natCast,frF_end] at this
   rw [hnb];exact this)),rfl,rfl,rfl⟩
  have c2:W.cell? ⟨w.heap.size + 1 + 1,0,none⟩ = some (.int .u8 0):=st.k.cell (i:=0) rfl
  have c3:W.cell? ⟨w.heap.size + 1 + 1 + 1,0,none⟩ = some (.int .i64 0):=st.a.cell (i:=0) rfl
  have c4:W.cell? ⟨w.heap.size + 1 + 1 + 1 + 1,0,none⟩ = some (.int .i64 0):=st.b.cell (i:=0) rfl
  have f2:W.frozen? ⟨w.heap.size + 1 + 1,0,none⟩ = false:=soft_of_heap st.k 0
  have f3:W.frozen? ⟨w.heap.size + 1 + 1 + 1,0,none⟩ = false:=soft_of_heap st.a 0
  have f4:W.frozen? ⟨w.heap.size + 1 + 1 + 1 + 1,0,none⟩ = false:=soft_of_heap st.b 0
  have ST:=Lib.hid st
  have HK:=Lib.hid hK
  clear st hK
  go_wp2_with fail
  have hst:=((ST.out.setK 0).setA 0).setB 0
  have hKD:=((((Only.setCell _ _ _).block D (by simp;omega)).trans (((Only.setCell _ _ _).block D (by simp;omega)).trans ((Only.setCell W ⟨w.heap.size + 2,0,none⟩ (.int .u8 0)).block D (by simp;omega)))).trans HK.out:((((W.setCell ⟨w.heap.size + 2,0,none⟩ (.int .u8 0)).setCell ⟨w.heap.size + 3,0,none⟩ (.int .i64 0)).setCell ⟨w.heap.size + 4,0,none⟩ (.int .i64 0))).heap[D]? = some (.deferred (some [])))
  have r2:=cell_putObj (D:=D) (o':=.deferred none) hKD rfl (hst.k.cell (i:=0) (v:=.int .u8 0) rfl)
  have r3:=cell_putObj (D:=D) (o':=.deferred none) hKD rfl (hst.a.cell (i:=0) (v:=.int .i64 0) rfl)
  have r4:=cell_putObj (D:=D) (o':=.deferred none) hKD rfl (hst.b.cell (i:=0) (v:=.int .i64 0) rfl)
  refine bodyPostM_done (v:=.tuple #[.int .u8 0,.int .i64 0,.int .i64 0]) (D:=D) hKD ?_ ⟨0,0,0,rfl,HO.out,below_putObj hst.bel _ (Nat.le_refl _) (by omega)⟩
  simp only [Nat.add_assoc,Nat.reduceAdd] at *
  simp [results,Tryz.f20,go_sem,r2,r3,r4]
 case stop =>
  rintro D c k W hD hk ⟨rfl,K,A,B',HO,st⟩ hK
  have ST:=Lib.hid st
  have HK:=Lib.hid hK
  clear st hK
  go_wp2_with fail
  have r2:=cell_putObj (D:=D) (o':=.deferred none) HK.out rfl (ST.out.k.cell (i:=0) (v:=.int .u8 K) rfl)
  have r3:=cell_putObj (D:=D) (o':=.deferred none) HK.out rfl (ST.out.a.cell (i:=0) (v:=.int .i64 A) rfl)
  have r4:=cell_putObj (D:=D) (o':=.deferred none) HK.out rfl (ST.out.b.cell (i:=0) (v:=.int .i64 B') rfl)
  refine bodyPostM_done (v:=.tuple #[.int .u8 K,.int .i64 A,.int .i64 B']) (D:=D) HK.out ?_ ⟨K,A,B',rfl,HO.out,below_putObj ST.out.bel _ (Nat.le_refl _) (by omega)⟩
  simp only [Nat.add_assoc,Nat.reduceAdd] at *
  simp [results,Tryz.f20,go_sem,r2,r3,r4]
end Go.Proofs.YtnbmmhoofilmfaaGreatDoor

namespace Go.Proofs.YtnbmmhoofilmfaaGreatDoor
open Go.RowKit Go.Shelf
set_option linter.unusedVariables false
theorem pthLevel_any (q:Nat) (hq:q ≤ 10) (w:World):Calls Tryz.prog 165 #[.int .i64 (q:Int)] w fun e w' => e = .returned (.int .i64 ((Im.lvl q:Nat):Int)) ∧ w = w':=by
 have h1:¬ (q:Int) < 0:=by omega
 have h2:¬ (10:Int) < (q:Int):=by omega
 by_cases h8:q < 8
 ·have h3:(q:Int) < 8:=by omega
  have FIN:Hid (Im.lvl q = 0):=by show _ = _;unfold Im.lvl;rw [if_pos h8]
  go_enter Tryz.func165,Tryz.ntmps165
  go_wp2_with fail
  go_ret
  exact ⟨by rw [FIN.out];rfl,rfl⟩
 ·have h3:¬ (q:Int) < 8:=by omega
  have FIN:Hid ((q:Int) - 8 + 1 = ((Im.lvl q:Nat):Int)):=by show _ = _;unfold Im.lvl;rw [if_neg h8];omega
  go_enter Tryz.func165,Tryz.ntmps165
  go_wp2_with fail
  go_ret
  exact ⟨by rw [← FIN.out];rfl,rfl⟩
theorem pthSpan_any (l:Nat) (hl:l ≤ 3) (w:World):Calls Tryz.prog 176 #[.int .i64 (l:Int)] w fun e w' => e = .returned (.int .i64 ((Im.spn l:Nat):Int)) ∧ w = w':=by
 obtain rfl | rfl | rfl | rfl:l = 0 ∨ l = 1 ∨ l = 2 ∨ l = 3:=by omega
 ·go_enter Tryz.func176,Tryz.ntmps176
  go_wp2_with fail
  refine wp_loop_rounds 1 ?_
  rw [rounds_succ]
  go_wp2_with fail
  go_ret
  exact ⟨rfl,rfl⟩
 ·go_enter Tryz.func176,Tryz.ntmps176
  go_wp2_with fail
  refine wp_loop_rounds 2 ?_
  rw [rounds_succ]
  go_wp2_with fail
  rw [rounds_succ]
  go_wp2_with fail
  go_ret
  exact ⟨rfl,rfl⟩
 ·go_enter Tryz.func176,Tryz.ntmps176
  go_wp2_with fail
  refine wp_loop_rounds 3 ?_
  rw [rounds_succ]
  go_wp2_with fail
  rw [rounds_succ]
  go_wp2_with fail
  rw [rounds_succ]
  go_wp2_with fail
  go_ret
  exact ⟨rfl,rfl⟩
 ·go_enter Tryz.func176,Tryz.ntmps176
  go_wp2_with fail
  refine wp_loop_rounds 4 ?_
  rw [rounds_succ]
  go_wp2_with fail
  rw [rounds_succ]
  go_wp2_with fail
  rw [rounds_succ]
  go_wp2_with fail
  rw [rounds_succ]
  go_wp2_with fail
  go_ret
  exact ⟨rfl,rfl⟩
def fstX (k:Nat):Nat:=if k < 9 then k else if k = 9 then 72 else if k = 10 then 4168 else 266312
theorem fstX_step {k:Nat} (hk:k < 11):(fstX k:Int) + (Im.spn (Im.lvl k):Nat) = (fstX (k + 1):Nat):=by
 have:k = 0 ∨ k = 1 ∨ k = 2 ∨ k = 3 ∨ k = 4 ∨ k = 5 ∨ k = 6 ∨ k = 7 ∨ k = 8 ∨ k = 9 ∨ k = 10:=by omega
 rcases this with rfl | rfl | rfl | rfl | rfl | rfl | rfl | rfl | rfl | rfl | rfl <;> decide
theorem fstX_bd (k:Nat):fstX k ≤ 266312:=by
 unfold fstX;split
 ·omega
 ·split
  ·omega
  ·split <;> omega
theorem lvl_bd {k:Nat} (hk:k < 11):Im.lvl k ≤ 3:=by unfold Im.lvl;split <;> omega
theorem spn_bd {l:Nat} (hl:l ≤ 3):1 ≤ Im.spn l ∧ Im.spn l ≤ 262144:=by
 obtain rfl | rfl | rfl | rfl:l = 0 ∨ l = 1 ∨ l = 2 ∨ l = 3:=by omega
 all_goals decide
def ptEnc (k:Nat):Array Value:=#[.int .i64 (k:Int),.int .i64 ((fstX k:Nat):Int)]
set_option maxRecDepth 100000 in
set_option maxHeartbeats 4000000 in
theorem pointers_iter (n:Nat) (hn:1 ≤ n):IterIx Fence.wide n Tryz.prog 199 #[] ptEnc 11 (fun _ => False) (fun _ _ => True):=by
 intro l J Jx W _ _ hY h0 hN
 have HY:=Lib.hid hY
 clear hY
 refine callsIn_of_wp Tryz.func199 rfl trivial ?_ rfl
 simp only [Tryz.ntmps199,List.size_toArray,List.length_cons,List.length_nil,Nat.reduceAdd,Nat.reduceSub,Array.replicate_succ,Array.replicate_zero,List.push_toArray,List.append_toArray,List.nil_append,List.cons_append]
 gi_wp2
 gi_loopw [2,4] (fun f i wr => ∃ k:Nat,k ≤ 11 ∧ i = .int .i64 (k:Int) ∧ f = .int .i64 ((fstX k:Nat):Int) ∧ J k wr) (fun _ i _ => 11 - (intOf i).toNat)
 case atStart => exact ⟨0,Nat.zero_le _,rfl,rfl,h0⟩
 case round =>
  obtain ⟨k,hk,rfl,rfl,hJ⟩:=hrel
  by_cases hlt:k < 11
  ·obtain ⟨fn,tmps,assign,body,hy,hR⟩:=HY.out k wr hlt hJ trivial
   dsimp only [ptEnc] at hy
   have hlt':(k:Int) < 11:=by omega
   gi_wp2
   refine hR.mono ?_
   clear hR hy
   rintro e W3 (⟨rfl,hJ3,hN3⟩ | ⟨rfl,hJx3⟩)
   ·gi_wp2_with (first | (refine ⟨trivial,?_⟩;gi_at_call 165;refine (callsIn_wide.2 (pthLevel_any k (by omega) _)).mono ?_;rintro e w' ⟨rfl,rfl⟩) | (refine ⟨trivial,?_⟩;gi_at_call 176;refine (callsIn_wide.2 (pthSpan_any (Im.lvl k) (lvl_bd hlt) _)).mono ?_;rintro e w' ⟨rfl,rfl⟩))
    go_roundw
    case rel => exact ⟨k + 1,by omega,by go_num,by (refine int_eq ?_;rw [IntWalk.wrap64_in _ (by have h1:=fstX_step hlt;have h2:=fstX_bd (k + 1);omega)];exact fstX_step hlt),hJ3⟩
    case measure => simp [intOf];omega
   ·gi_wp2
    refine bodyPost_ret (results_none rfl _ _ _) rfl ?_
    exact ⟨⟨_,rfl⟩,.inr ⟨k,hlt,hJx3⟩⟩
  ·obtain rfl:k = 11:=by omega
   gi_wp2
   refine bodyPost_end (results_none rfl _ _ _) rfl ?_
   exact ⟨⟨_,rfl⟩,.inl hJ⟩
end Go.Proofs.YtnbmmhoofilmfaaGreatDoor

namespace Go.Proofs.YtnbmmhoofilmfaaGreatDoor
open Go.RowKit
set_option linter.unusedVariables false
def tr0 (s:Int):Tr:=⟨s,0,fun _ => 0,fun _ _ => 0,0,fun _ => 0⟩
section
variable {w:World} {la:Option Addr} {N:Nat} {L:Nat → Nat → Int} {n m:Nat} {s:Int} {cb:Nat → Int} {cd:Nat → Nat → Int} {rv:Nat → Int} {ca:Option Addr} {cc:Nat} {ra:Option Addr} {rc:Nat} {W W':World}
end
theorem AtGrown {W W1:World} {g:Nat} {T:TypeId} {cs:Array Value} {row:Option Nat} (h:At W g T cs) (hg:W.grownBy W1 row) (hne:row ≠ some g):At W1 g T cs:=(hg.block _ h.lt (fun e => hne e.symm)).trans h
theorem info_int3:(Tryz.prog.info? 3).map (fun i => (i.zero,i.size,i.bytes)) = some (some (.int .i64 0),1,8):=by kernel_rfl
theorem info_intP:∃ i,Tryz.prog.info? 3 = some i ∧ i.zero = some (.int .i64 0) ∧ i.size = 1 ∧ i.bytes = 8:=by
 obtain ⟨i,hi,hz⟩:=Option.map_eq_some_iff.1 info_int3
 simp only [Prod.mk.injEq] at hz
 exact ⟨i,hi,hz.1,hz.2.1,hz.2.2⟩
structure POk (t:Tr) (s:Int) (K:Nat):Prop where
 s:t.s = s
 cb:∀ i,0 ≤ t.cb i ∧ t.cb i < 4294967296
 cd:∀ i,Byt (t.cd i)
 rv:∀ i,0 ≤ t.rv i ∧ t.rv i < 4294967296
 n:t.n ≤ K
 m:t.m ≤ 60 * K
 cb0:∀ i,t.n ≤ i → t.cb i = 0
 rv0:∀ i,t.m ≤ i → t.rv i = 0
theorem POk.ok {t:Tr} {s:Int} {n:Nat} (h:POk t s n) (hs:0 ≤ s ∧ s < 4294967296) (hn:n ≤ 255):t.Ok :=
 ⟨by rw [h.s];exact hs,fun i => by have:=h.cb i;omega,h.cd,fun i => by have:=h.rv i;omega,by have:=h.n;omega,by have:=h.m;omega,h.cb0,h.rv0⟩
theorem POk.zero (s:Int):POk (tr0 s) s 0:=⟨rfl,fun i => ⟨Int.le_refl 0,(by decide:(0:Int) < 4294967296)⟩,fun i => zero_bytJ,fun i => ⟨Int.le_refl 0,(by decide:(0:Int) < 4294967296)⟩,Nat.le_refl _,Nat.le_refl _,fun i _ => rfl,fun i _ => rfl⟩
theorem RRow.take {w:World} {a:Option Addr} {m n:Nat} {f:Nat → List Value} (h:RRow w a m n f) (k:Nat) (hk:k ≤ n):RRow w a m k f:=by
 rcases h with h | ⟨b,off,rfl,h⟩
 ·exact .inl (by omega)
 ·exact .inr ⟨b,off,rfl,fun i hi => h i (by omega)⟩
section
variable {t:Tr} {L:Nat → Nat → Int} {N:Nat}
end
section
variable {L:Nat → Nat → Int} {N:Nat}
end
end Go.Proofs.YtnbmmhoofilmfaaGreatDoor
