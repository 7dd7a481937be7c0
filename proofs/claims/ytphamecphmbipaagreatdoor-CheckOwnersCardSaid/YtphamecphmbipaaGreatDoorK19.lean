/- Texts of this claim, merged by a program (a claim may have 60 files): MoveIn, What, What2, RangeV4, RangeK2, MoveIn2, CopyB, Outside, Sc1, Sc2, Sc3, Sc4, Sc4a, Sc4b. -/
import Derived.Test.YtphamecphmbipaaGreatDoorK09
import Derived.OrdersIn
import Derived.OwnWalkIn
import Derived.Test.YtphamecphmbipaaGreatDoorK06
import Derived.Test.YtphamecphmbipaaGreatDoorK15
import Derived.Test.YtphamecphmbipaaGreatDoorK07
import Derived.Deep.QuietTactic
import Derived.Test.YtphamecphmbipaaGreatDoorK04
import Derived.RangeFuncCalls
import Derived.Test.YtphamecphmbipaaGreatDoorK12
import Derived.Test.YtphamecphmbipaaGreatDoorK05
import Derived.Laws.CopyRow
import Derived.Deep.RegionLaw
import Derived.RegionIn
namespace Go.Proofs.YtphamecphmbipaaGreatDoor.Mv
open Go.RowKit Go.Proofs.YtphamecphmbipaaGreatDoor
set_option linter.unusedVariables false
def tame (o:Oper):Bool:=match o.op with | .store _ _ _ => true | _ => plainOp o
section
variable {F:Fence} {m:Nat} {P:Program} {ops:Array Oper} {md:Region.Mode} {σ:Type} {C:σ → World → Prop}
theorem tame_no_enter {o:Oper} (ho:tame o = true) (a:Act) (w:World) (f:FuncId) (args:Array Value) (w':World):(execOp a.eval o).run P w ≠ .ok (.enter f args) w':=by
 unfold tame at ho
 split at ho
 ·rename_i ty x y hop
  unfold execOp
  simp only [hop,Sem.run_bind]
  intro h
  cases hr:(Instr.storeAt ty (a.eval x) (a.eval y)).run P w with
  | ok u w1 => rw [hr] at h;simp [Result.andThen,Sem.run_pure] at h
  | halt e w1 => rw [hr] at h;simp [Result.andThen] at h
 ·exact plain_no_enter ho a w f args w'
theorem tame_no_call {o:Oper} (ho:tame o = true) (c):o.op ≠ .call c:=by
 intro h;unfold tame at ho;rw [h] at ho;unfold plainOp at ho;rw [h] at ho;cases ho
theorem tame_no_defer {o:Oper} (ho:tame o = true) (c):o.op ≠ .defer c:=by
 intro h;unfold tame at ho;rw [h] at ho;unfold plainOp at ho;rw [h] at ho;cases ho
theorem wpOpIn_of_lin (ht:ops.all tame = true) {i:Nat} {s:σ} {a:Act} {K:σ → Act → Prop} {K':Act → World → Prop} {Q':Exit → Act → World → Prop} {w:World} (hC:C s w) (h:∀ s a w',C s w' → K s a → K' a w') (hh:linOp P ops C i K s a):wpOpIn F m P ops Q' i K' a w:=by
 unfold linOp at hh
 unfold wpOpIn
 split
 ·rename_i ho;simp only [ho] at hh;exact h _ _ _ hC hh
 ·rename_i o ho
  simp only [ho] at hh
  have hta:tame o = true:=by
   rw [Array.all_eq_true_iff_forall_mem] at ht
   exact ht o (Array.mem_of_getElem? ho)
  have hab:∀ f,o.about P w a.eval = some f → F.fn f:=by
   intro f hf
   unfold Oper.about at hf
   split at hf
   ·rename_i c hc;exact absurd hc (tame_no_call hta c)
   ·cases hf
  rcases hh with ⟨hw,hy⟩ | ⟨hw,hk⟩
  ·simp only [hw,if_true]
   unfold Oper.wpIn
   refine ⟨hab,?_⟩
   rw [Oper.semAt_plain F _ _ (tame_no_defer hta)]
   have hne:=fun f args w' => tame_no_enter (P:=P) hta a w f args w'
   rcases hy with ⟨_,hk⟩ | ⟨_,v,hs,hk⟩
   ·have h3:=hk w hC
    generalize (execOp a.eval o).run P w = r at *
    cases r with
    | ok n w' =>
     cases n <;> simp only [movesUpon] at h3 <;> simp only [Oper.uponIn]
     ·obtain ⟨s',h4,h5⟩:=h3;exact h _ _ _ h4 h5
     ·obtain ⟨s',h4,h5⟩:=h3;exact h _ _ _ h4 h5
     ·exact absurd rfl (hne _ _ _)
    | halt x w' => simp only [movesUpon] at h3
   ·have h3:=hs w ⟨_,hC⟩
    generalize (execOp a.eval o).run P w = r at *
    cases r with
    | ok n w' =>
     cases n <;> simp only [stillUpon] at h3 <;> simp only [Oper.uponIn]
     ·obtain ⟨rfl,rfl⟩:=h3;exact h _ _ _ hC hk
     ·obtain ⟨rfl,rfl⟩:=h3;exact h _ _ _ hC hk
    | halt x w' => simp only [stillUpon] at h3
  ·rw [if_neg (by rw [hw];decide)]
   exact ⟨hab,h _ _ _ hC hk⟩
theorem wpAnyIn_of_lin (ht:ops.all tame = true) {Q:σ → Act → Prop} {Q':Exit → Act → World → Prop} (hQ:∀ s a w,C s w → Q s a → Q' .normal a w):∀ (fuel:Nat) (listed:Array Bool) (s:σ) (a:Act) (w:World),C s w →
  wpAnyL P md ops C Q fuel listed s a → wpAnyIn F m P md ops Q' fuel listed a w
 | 0,_,_,_,_,hw,h => ⟨h.1,hQ _ _ _ hw h.2⟩
 | fuel + 1,_,_,_,_,hw,h => ⟨fun h0 => hQ _ _ _ hw (h.1 h0),fun i hi => wpOpIn_of_lin ht hw (fun s' a' w' hw' => wpAnyIn_of_lin ht hQ fuel _ s' a' w' hw') (h.2 i hi)⟩
theorem wpIn_region_mc (C:σ → World → Prop) (s:σ) {id:Nat} {Q:Exit → Act → World → Prop} {a:Act} {w:World} {l:List Oper} (hm:P.follows .mixedOrders = true) (hB:Region.lexB .any l.toArray = true) (hch:chainC .any l.toArray = true) (ht:l.toArray.all tame = true) (hC:C s { w with drawn:=w.drawn + 1 })
  (h:Nonempty (InW fun w => ∃ s,C s w) → wpLin P l.toArray C (fun s a' => ∀ w',C s w' → Q .normal a' w') l s a):(Code.region id l.toArray true).wpIn F m P Q a w:=by
 simp only [Region.lexB,Bool.and_eq_true] at hB
 refine wpIn_region_any hm (wpAnyIn_of_lin ht (Q:=fun s a' => ∀ w',C s w' → Q .normal a' w') (fun _ _ w' hw' h => h w' hw') _ _ s _ _ hC ?_)
 have:=wpAnyL_lexC (C:=C) (md:=.any) calls_some hch hB.1 l 0 (Array.replicate l.toArray.size false) s a ⟨_,hC⟩ (fun j oj hj hl => by
   rcases Nat.lt_or_ge j l.toArray.size with h' | h'
   ·rw [List.size_toArray] at h';simp [h'] at hl
   ·rw [List.size_toArray] at h';simp [h'] at hl) (fun j hj => by omega) (by simp) (by simpa using hB.2) (h ⟨⟨_,s,hC⟩⟩)
 simpa using this
theorem lin_store1 {Q:σ → Act → Prop} {s:σ} {o:Oper} {rest:List Oper} {a:Act} (hw:Region.wanted o (yielded ops a.tmps) = true) (ty:TypeId) (x y:Operand) (ho:o.op = .store ty x y)
  (b off:Nat) (v:Value) (hx:a.eval x = .pointer (some ⟨b,off,none⟩)) (hy:a.eval y = v) (hi:(P.info? ty).map (·.size) = some 1) (h1:v.oneCell' = true) (s':σ)
  (hc:∀ w,C s w → (∃ u,w.cell? ⟨b,off,none⟩ = some u) ∧ w.frozen? ⟨b,off,none⟩ = false ∧ C s' (w.setCell ⟨b,off,none⟩ v))
  (hk:wpLin P ops C Q rest s' (a.put o.dst undef)):wpLin P ops C Q (o :: rest) s a :=
 lin_move hw (by unfold mv plainOp;rw [ho];rfl) fun w hC => by
  obtain ⟨⟨u,hu⟩,hf,hC'⟩:=hc w hC
  unfold execOp
  simp only [ho,hx,hy,Instr.storeAt,Instr.sureAddr,Sem.run_bind,Sem.run_pure,Result.andThen_ok,run_storeVar1 w b off ty u v hu hf hi h1]
  exact ⟨s',hC',hk⟩
end
end Go.Proofs.YtphamecphmbipaaGreatDoor.Mv

namespace Go.Proofs.YtphamecphmbipaaGreatDoor
open Go.RowKit
set_option linter.unusedVariables false
attribute [local go_sem] Oper.semAt_some
theorem ptF_form {g:Nat} {S t J:Int} (h1:16 ≤ S) (h2:S ≤ 512) (h3:0 ≤ t) (h4:3 + t ≤ S) (h5:40 ≤ J) (h6:J ≤ 256) (hg:g ≤ 4) (k:Nat) (hk:k < 3 + 4 * g) :
  ∃ K Gg Fr Sz Pl:Int,ptF S t J k = pcells K Gg Fr Sz Pl ∧ (0 ≤ Fr ∧ 0 ≤ Sz ∧ Fr + Sz ≤ 2 + J + g * S ∧ 0 ≤ Pl ∧ Pl ≤ 512 ∧ Fr + Sz ≤ 4000 ∧ 0 ≤ K ∧ K ≤ 7) ∧
   (k = 0 ∧ Fr + Sz = 1 ∧ K = 1 ∨ k = 1 ∧ Fr + Sz = 2 ∧ K = 2 ∨ k = 2 ∧ Fr + Sz = 2 + J ∧ K = 3 ∨ 3 ≤ k ∧ 2 + J ≤ Fr + Sz ∧ 4 ≤ K ∧ K ≤ 7 ∧ (k + 1 = 3 + 4 * g → Fr + Sz = 2 + J + g * S)):=by
 have hgs0:0 ≤ (g:Int) * S:=Int.mul_nonneg (by omega) (by omega)
 have hgs1:(g:Int) * S ≤ 4 * 512:=Int.mul_le_mul (by omega) h2 (by omega) (by omega)
 by_cases c0:k = 0
 ·subst c0;exact ⟨1,0,0,1,0,rfl,by omega,by omega⟩
 by_cases c1:k = 1
 ·subst c1;exact ⟨2,0,1,1,0,rfl,by omega,by omega⟩
 by_cases c2:k = 2
 ·subst c2;exact ⟨3,0,2,J,0,rfl,by omega,by omega⟩
 obtain ⟨γ,i,hi,rfl⟩:∃ γ i,i < 4 ∧ k = 3 + 4 * γ + i:=⟨(k - 3) / 4,(k - 3) % 4,by omega,by omega⟩
 have hγ:γ + 1 ≤ g:=by omega
 have hm0:0 ≤ (γ:Int) * S:=Int.mul_nonneg (by omega) (by omega)
 have hm1:((γ:Int) + 1) * S ≤ (g:Int) * S:=Int.mul_le_mul_of_nonneg_right (by omega) (by omega)
 rw [Int.add_mul,Int.one_mul] at hm1
 have hlast:γ + 1 = g → (γ:Int) * S + S = (g:Int) * S:=fun e => by rw [← e];rw [show ((γ + 1:Nat):Int) = (γ:Int) + 1 by omega,Int.add_mul,Int.one_mul]
 rw [ptF_at S t J γ hi]
 generalize (γ:Int) * S = a at *
 generalize (g:Int) * S = b at *
 have:i = 0 ∨ i = 1 ∨ i = 2 ∨ i = 3:=by omega
 rcases this with rfl | rfl | rfl | rfl
 ·exact ⟨4,γ,2 + J + a,1,0,rfl,by omega,by omega⟩
 ·exact ⟨5,γ,2 + J + a + 1,1,1,rfl,by omega,by omega⟩
 ·exact ⟨6,γ,2 + J + a + 2,t,2,rfl,by omega,by omega⟩
 ·refine ⟨7,γ,2 + J + a + 2 + t,S - 2 - t,2 + t,rfl,by omega,.inr (.inr (.inr ⟨by omega,by omega,by omega,by omega,fun e => ?_⟩))⟩
  have:=hlast (by omega)
  omega
theorem At.setCell {w:World} {g:Nat} {T:TypeId} {cs:Array Value} (h:At w g T cs) (i:Nat) (v:Value):At (w.setCell ⟨g,i,none⟩ v) g T (cs.setIfInBounds i v):=by
 obtain ⟨hlt,hk⟩:=Array.getElem?_eq_some_iff.1 h
 show (w.heap.modify g _)[g]? = _
 rw [Array.getElem?_eq_getElem (by rw [Array.size_modify];exact hlt),Array.getElem_modify_self,hk]
 rfl
structure WhS (w:World) (G S I J x K A B:Int) (W:World):Prop where
 g:At W w.heap.size 23 (gcells G S I J)
 x:At W (w.heap.size + 1) 3 #[.int .i64 x]
 k:At W (w.heap.size + 2) 5 #[.int .u8 K]
 a:At W (w.heap.size + 3) 3 #[.int .i64 A]
 b:At W (w.heap.size + 4) 3 #[.int .i64 B]
 bel:Below w.heap.size w W
section
variable {w:World} {G S I J x K A B:Int} {W W':World}
theorem WhS.below (h:WhS w G S I J x K A B W) (hb:Below W.heap.size W W'):WhS w G S I J x K A B W':=⟨h.g.below hb h.g.lt,h.x.below hb h.x.lt,h.k.below hb h.k.lt,h.a.below hb h.a.lt,h.b.below hb h.b.lt,h.bel.trans (hb.mono h.bel.size)⟩
theorem WhS.sz (h:WhS w G S I J x K A B W):w.heap.size + 5 ≤ W.heap.size:=h.b.lt
theorem WhS.setK (h:WhS w G S I J x K A B W) (v:Int):WhS w G S I J x v A B (W.setCell ⟨w.heap.size + 2,0,none⟩ (.int .u8 v)) :=
 have ho:=Only.setCell W ⟨w.heap.size + 2,0,none⟩ (.int .u8 v)
 ⟨h.g.only ho (by simp),h.x.only ho (by simp),h.k.setCell 0 _,h.a.only ho (by simp),h.b.only ho (by simp),h.bel.trans (ho.below (by simp))⟩
theorem WhS.setA (h:WhS w G S I J x K A B W) (v:Int):WhS w G S I J x K v B (W.setCell ⟨w.heap.size + 3,0,none⟩ (.int .i64 v)) :=
 have ho:=Only.setCell W ⟨w.heap.size + 3,0,none⟩ (.int .i64 v)
 ⟨h.g.only ho (by simp),h.x.only ho (by simp),h.k.only ho (by simp),h.a.setCell 0 _,h.b.only ho (by simp),h.bel.trans (ho.below (by simp))⟩
theorem WhS.setB (h:WhS w G S I J x K A B W) (v:Int):WhS w G S I J x K A v (W.setCell ⟨w.heap.size + 4,0,none⟩ (.int .i64 v)) :=
 have ho:=Only.setCell W ⟨w.heap.size + 4,0,none⟩ (.int .i64 v)
 ⟨h.g.only ho (by simp),h.x.only ho (by simp),h.k.only ho (by simp),h.a.only ho (by simp),h.b.setCell 0 _,h.bel.trans (ho.below (by simp))⟩
theorem WhS.loc {B0:Nat} (hB:w.heap.size + 5 ≤ B0):LocalP B0 (WhS w G S I J x K A B):=fun A' C hs hg =>
 ⟨LocalP.at _ _ (by omega) A' C hs.g hg,LocalP.at _ _ (by omega) A' C hs.x hg,LocalP.at _ _ (by omega) A' C hs.k hg,LocalP.at _ _ (by omega) A' C hs.a hg,LocalP.at _ _ (by omega) A' C hs.b hg,LocalP.below w (by omega) (Nat.le_refl _) A' C hs.bel hg⟩
end
theorem parts_any (G S I J:Int) (w:World):Calls Tryz.prog 44 #[gval G S I J] w fun e w' => e = .returned (.func (.func 90) #[] #[.pointer (some ⟨w.heap.size,0,none⟩)]) ∧ At w' w.heap.size 23 (gcells G S I J) ∧ Below w.heap.size w w':=by
 have hA:=Lib.hid (At.new w 23 (gcells G S I J))
 have hL:Hid (Below w.heap.size w (w.alloc (.cells (gcells G S I J) 23))):=(Below.refl _ _).alloc (Nat.le_refl _) _
 go_enter Tryz.func44,Tryz.ntmps44
 go_wp2_with fail
 go_ret
 exact ⟨rfl,hA.out,hL.out⟩
structure WhC (w:World) (G S I J x K A B:Int) (p:Nat) (cs:Array Value) (B0:Nat) (W0:World) (t:Mv.St) (W:World):Prop where
 s:WhS w G S I J x (if t.n ≥ 1 then K else 0) (if t.n ≥ 2 then A else 0) (if t.n ≥ 3 then B else 0) W
 p:At W p 117 cs
 keep:KeepsFrom B0 W0 W
section
variable {w:World} {G S I J x K A B:Int} {p:Nat} {cs:Array Value} {B0:Nat} {W0 W:World}
theorem At.unlike {W:World} {p q:Nat} {T U:TypeId} {cs ds:Array Value} (h:At W p T cs) (k:At W q U ds) (hT:T ≠ U):p ≠ q:=by
 intro e
 subst e
 have:=h.symm.trans k
 injection this with this
 injection this with _ h2 _
 exact hT h2
theorem WhC.s1 (h:WhC w G S I J x K A B p cs B0 W0 ⟨0,undef⟩ W):WhC w G S I J x K A B p cs B0 W0 ⟨1,undef⟩ (W.setCell ⟨w.heap.size + 2,0,none⟩ (.int .u8 K)) :=
 have ho:=Only.setCell W ⟨w.heap.size + 2,0,none⟩ (.int .u8 K)
 ⟨h.s.setK K,h.p.only ho (At.unlike h.p h.s.k (by decide)),h.keep.trans (ho.keeps (h.s.k.cell (i:=0) rfl))⟩
theorem WhC.s2 (h:WhC w G S I J x K A B p cs B0 W0 ⟨1,undef⟩ W):WhC w G S I J x K A B p cs B0 W0 ⟨2,undef⟩ (W.setCell ⟨w.heap.size + 3,0,none⟩ (.int .i64 A)) :=
 have ho:=Only.setCell W ⟨w.heap.size + 3,0,none⟩ (.int .i64 A)
 ⟨h.s.setA A,h.p.only ho (At.unlike h.p h.s.a (by decide)),h.keep.trans (ho.keeps (h.s.a.cell (i:=0) rfl))⟩
theorem WhC.s3 (h:WhC w G S I J x K A B p cs B0 W0 ⟨2,undef⟩ W):WhC w G S I J x K A B p cs B0 W0 ⟨3,undef⟩ (W.setCell ⟨w.heap.size + 4,0,none⟩ (.int .i64 B)) :=
 have ho:=Only.setCell W ⟨w.heap.size + 4,0,none⟩ (.int .i64 B)
 ⟨h.s.setB B,h.p.only ho (At.unlike h.p h.s.b (by decide)),h.keep.trans (ho.keeps (h.s.b.cell (i:=0) rfl))⟩
end
theorem info_i64:(Tryz.prog.info? 3).map (·.size) = some 1:=by kernel_rfl
end Go.Proofs.YtphamecphmbipaaGreatDoor

namespace Go.Proofs.YtphamecphmbipaaGreatDoor
open Go.RowKit
set_option linter.unusedVariables false
attribute [local go_sem] Oper.semAt_some
def frF (S t J:Int) (k:Nat):Int :=
 if k = 0 then 0 else if k = 1 then 1 else if k = 2 then 2 else
 2 + J + (((k - 3) / 4:Nat):Int) * S + (if (k - 3) % 4 = 0 then 0 else if (k - 3) % 4 = 1 then 1 else if (k - 3) % 4 = 2 then 2 else 2 + t)
theorem frF_at (S t J:Int) (γ:Nat) {i:Nat} (hi:i < 4):frF S t J (3 + 4 * γ + i) = 2 + J + (γ:Int) * S + (if i = 0 then 0 else if i = 1 then 1 else if i = 2 then 2 else 2 + t):=by
 have e1:(3 + 4 * γ + i - 3) % 4 = i:=by omega
 have e2:(3 + 4 * γ + i - 3) / 4 = γ:=by omega
 unfold frF
 rw [if_neg (by omega),if_neg (by omega),if_neg (by omega),e1,e2]
theorem frF_end (S t J:Int) (g:Nat):frF S t J (3 + 4 * g) = 2 + J + (g:Int) * S:=by
 have:=frF_at S t J g (i:=0) (by omega)
 rw [Nat.add_zero,if_pos rfl,Int.add_zero] at this
 exact this
theorem ptF_fr {g:Nat} {S t J:Int} (h1:16 ≤ S) (h2:S ≤ 512) (h3:0 ≤ t) (h4:3 + t ≤ S) (h5:40 ≤ J) (h6:J ≤ 256) (hg:g ≤ 4) (k:Nat) (hk:k < 3 + 4 * g) :
  ∃ K Gg Sz Pl:Int,ptF S t J k = pcells K Gg (frF S t J k) Sz Pl ∧ (0 ≤ frF S t J k ∧ 0 ≤ Sz ∧ 0 ≤ Pl ∧ Pl ≤ 512 ∧ frF S t J k + Sz ≤ 4000 ∧ 0 ≤ K ∧ K ≤ 7) ∧ frF S t J k + Sz = frF S t J (k + 1):=by
 have hgs1:(g:Int) * S ≤ 4 * 512:=Int.mul_le_mul (by omega) h2 (by omega) (by omega)
 by_cases c0:k = 0
 ·subst c0;exact ⟨1,0,1,0,rfl,by show (0:Int) ≤ 0 ∧ (0:Int) ≤ 1 ∧ (0:Int) ≤ 0 ∧ (0:Int) ≤ 512 ∧ (0:Int) + 1 ≤ 4000 ∧ (0:Int) ≤ 1 ∧ (1:Int) ≤ 7;decide,rfl⟩
 by_cases c1:k = 1
 ·subst c1;exact ⟨2,0,1,0,rfl,by show (0:Int) ≤ 1 ∧ (0:Int) ≤ 1 ∧ (0:Int) ≤ 0 ∧ (0:Int) ≤ 512 ∧ (1:Int) + 1 ≤ 4000 ∧ (0:Int) ≤ 2 ∧ (2:Int) ≤ 7;decide,rfl⟩
 by_cases c2:k = 2
 ·subst c2
  have:frF S t J 3 = 2 + J:=by have:=frF_end S t J 0;simpa using this
  exact ⟨3,0,J,0,rfl,by show (0:Int) ≤ 2 ∧ 0 ≤ J ∧ (0:Int) ≤ 0 ∧ (0:Int) ≤ 512 ∧ 2 + J ≤ 4000 ∧ (0:Int) ≤ 3 ∧ (3:Int) ≤ 7;omega,by rw [this];rfl⟩
 obtain ⟨γ,i,hi,rfl⟩:∃ γ i,i < 4 ∧ k = 3 + 4 * γ + i:=⟨(k - 3) / 4,(k - 3) % 4,by omega,by omega⟩
 have hm0:0 ≤ (γ:Int) * S:=Int.mul_nonneg (by omega) (by omega)
 have hm1:((γ:Int) + 1) * S ≤ (g:Int) * S:=Int.mul_le_mul_of_nonneg_right (by omega) (by omega)
 rw [Int.add_mul,Int.one_mul] at hm1
 have f0:=frF_at S t J γ (i:=0) (by omega)
 have f1:=frF_at S t J γ (i:=1) (by omega)
 have f2:=frF_at S t J γ (i:=2) (by omega)
 have f3:=frF_at S t J γ (i:=3) (by omega)
 have f4:frF S t J (3 + 4 * γ + 3 + 1) = 2 + J + (γ:Int) * S + S:=by
  have:=frF_end S t J (γ + 1)
  rw [show 3 + 4 * γ + 3 + 1 = 3 + 4 * (γ + 1) by omega,this,show ((γ + 1:Nat):Int) = (γ:Int) + 1 by omega,Int.add_mul,Int.one_mul]
  omega
 rw [ptF_at S t J γ hi]
 simp only [if_true,Nat.add_zero,Nat.reduceEqDiff,if_false,Int.add_zero] at f0 f1 f2 f3
 generalize (γ:Int) * S = a at *
 generalize (g:Int) * S = b at *
 have:i = 0 ∨ i = 1 ∨ i = 2 ∨ i = 3:=by omega
 rcases this with rfl | rfl | rfl | rfl
 ·rw [Nat.add_zero,show 3 + 4 * γ + 1 = 3 + 4 * γ + 1 from rfl,f0,f1]
  exact ⟨4,γ,1,0,rfl,by omega,by omega⟩
 ·rw [show 3 + 4 * γ + 1 + 1 = 3 + 4 * γ + 2 from rfl,f1,f2]
  refine ⟨5,γ,1,1,rfl,by omega,by omega⟩
 ·rw [show 3 + 4 * γ + 2 + 1 = 3 + 4 * γ + 3 from rfl,f2,f3]
  exact ⟨6,γ,t,2,rfl,by omega,by omega⟩
 ·rw [f3,f4]
  exact ⟨7,γ,S - 2 - t,2 + t,by rw [if_neg (by decide),if_neg (by decide),if_neg (by decide)];unfold pcells;rw [Int.add_assoc (2 + J + a)],by omega,by omega⟩
def WhatIs (G S I J x K A B:Int):Prop:=((mayG G S I J = false ∨ x < 0 ∨ nBl G S I J ≤ x) ∧ K = 0 ∧ A = 0 ∧ B = 0) ∨
 (mayG G S I J = true ∧ ∃ (k:Nat) (Sz Pl:Int),(k:Int) < 3 + 4 * G ∧ ptF S (I / 4) J k = pcells K A (frF S (I / 4) J k) Sz Pl ∧ frF S (I / 4) J k ≤ x ∧ x < frF S (I / 4) J (k + 1) ∧ B = Pl + x - frF S (I / 4) J k)
set_option maxRecDepth 100000 in
set_option maxHeartbeats 4000000 in
theorem what2_any (G S I J x:Int) (hx0:-9223372036854775808 ≤ x) (hx1:x ≤ 9223372036854775807) (w:World) :
  Calls Tryz.prog 17 #[gval G S I J,.int .i64 x] w fun e w' => ∃ K A B:Int,e = .returned (.tuple #[.int .u8 K,.int .i64 A,.int .i64 B]) ∧ WhatIs G S I J x K A B ∧ Below w.heap.size w w':=by
 refine (callsIn_wide (n:=5)).1 (callsIn_of_wp_marks Tryz.func17 rfl trivial ?_ rfl)
 refine wpIn_wide.2 ?_
 simp only [Tryz.ntmps17,List.size_toArray,List.length_cons,List.length_nil,Nat.reduceAdd,Nat.reduceSub,Array.replicate_succ,Array.replicate_zero,List.push_toArray,List.append_toArray,List.nil_append,List.cons_append]
 obtain ⟨W,hW⟩:∃ W,W = ((((w.alloc (.cells (gcells G S I J) 23)).alloc (.cells #[.int .i64 x] 3)).alloc (.cells #[.int .u8 0] 5)).alloc (.cells #[.int .i64 0] 3)).alloc (.cells #[.int .i64 0] 3):=⟨_,rfl⟩
 have st0:WhS w G S I J x 0 0 0 W:=by
  rw [hW]
  refine ⟨((((At.new w _ _).alloc _).alloc _).alloc _).alloc _,?_,?_,?_,?_,((((((Below.refl _ _).alloc (Nat.le_refl _) _).alloc (by simp) _).alloc (by simp;omega) _).alloc (by simp;omega) _).alloc (by simp;omega) _)⟩
  ·have:=(((At.new (w.alloc (.cells (gcells G S I J) 23)) 3 #[.int .i64 x]).alloc (.cells #[.int .u8 0] 5)).alloc (.cells #[.int .i64 0] 3)).alloc (.cells #[.int .i64 0] 3)
   simp only [World.size_alloc] at this;exact this
  ·have:=((At.new ((w.alloc (.cells (gcells G S I J) 23)).alloc (.cells #[.int .i64 x] 3)) 5 #[.int .u8 0]).alloc (.cells #[.int .i64 0] 3)).alloc (.cells #[.int .i64 0] 3)
   simp only [World.size_alloc] at this;exact this
  ·have:=(At.new (((w.alloc (.cells (gcells G S I J) 23)).alloc (.cells #[.int .i64 x] 3)).alloc (.cells #[.int .u8 0] 5)) 3 #[.int .i64 0]).alloc (.cells #[.int .i64 0] 3)
   simp only [World.size_alloc] at this;exact this
  ·have:=At.new ((((w.alloc (.cells (gcells G S I J) 23)).alloc (.cells #[.int .i64 x] 3)).alloc (.cells #[.int .u8 0] 5)).alloc (.cells #[.int .i64 0] 3)) 3 #[.int .i64 0]
   simp only [World.size_alloc] at this;exact this
 have HW:=Lib.hid hW
 have hg0:=st0.g
 rw [hW] at hg0
 have ST0:=Lib.hid st0
 clear hW st0
 go_wp2_with (first | (refine wp_loadAtG rfl 23 (.tmp 2) rfl _ _ _ rfl hg0 Tryz.underlying23 rfl (by kernel_rfl) ?_))
 rw [← HW.out]
 clear HW hg0
 refine (geoMay_any G S I J W).mono ?_
 rintro e w1 ⟨rfl,hb1⟩
 have ST1:=Lib.hid (ST0.out.below hb1)
 clear ST0 hb1
 have cx:w1.cell? ⟨w.heap.size + 1,0,none⟩ = some (.int .i64 x):=ST1.out.x.cell (i:=0) rfl
 have c2:w1.cell? ⟨w.heap.size + 1 + 1,0,none⟩ = some (.int .u8 0):=ST1.out.k.cell (i:=0) rfl
 have c3:w1.cell? ⟨w.heap.size + 1 + 1 + 1,0,none⟩ = some (.int .i64 0):=ST1.out.a.cell (i:=0) rfl
 have c4:w1.cell? ⟨w.heap.size + 1 + 1 + 1 + 1,0,none⟩ = some (.int .i64 0):=ST1.out.b.cell (i:=0) rfl
 have f2:w1.frozen? ⟨w.heap.size + 1 + 1,0,none⟩ = false:=soft_of_heap ST1.out.k 0
 have f3:w1.frozen? ⟨w.heap.size + 1 + 1 + 1,0,none⟩ = false:=soft_of_heap ST1.out.a 0
 have f4:w1.frozen? ⟨w.heap.size + 1 + 1 + 1 + 1,0,none⟩ = false:=soft_of_heap ST1.out.b 0
 cases hm:mayG G S I J with
 | false =>
  have HO:Hid (WhatIs G S I J x 0 0 0):=.inl ⟨.inl hm,rfl,rfl,rfl⟩
  clear hm
  go_wp2_with fail
  have hst:=((ST1.out.setK 0).setA 0).setB 0
  have r2:=hst.k.cell (i:=0) (v:=.int .u8 0) rfl
  have r3:=hst.a.cell (i:=0) (v:=.int .i64 0) rfl
  have r4:=hst.b.cell (i:=0) (v:=.int .i64 0) rfl
  refine bodyPostM_early (v:=.tuple #[.int .u8 0,.int .i64 0,.int .i64 0]) ?_ ⟨0,0,0,rfl,HO.out,hst.bel⟩
  simp only [Nat.add_assoc,Nat.reduceAdd] at *
  simp [results,Tryz.f17,go_sem,r2,r3,r4]
 | true =>
 have HM:=Lib.hid hm
 clear hm
 by_cases hneg:x < 0
 ·have HO:Hid (WhatIs G S I J x 0 0 0):=.inl ⟨.inr (.inl hneg),rfl,rfl,rfl⟩
  go_wp2_with fail
  have hst:=((ST1.out.setK 0).setA 0).setB 0
  have r2:=hst.k.cell (i:=0) (v:=.int .u8 0) rfl
  have r3:=hst.a.cell (i:=0) (v:=.int .i64 0) rfl
  have r4:=hst.b.cell (i:=0) (v:=.int .i64 0) rfl
  refine bodyPostM_early (v:=.tuple #[.int .u8 0,.int .i64 0,.int .i64 0]) ?_ ⟨0,0,0,rfl,HO.out,hst.bel⟩
  simp only [Nat.add_assoc,Nat.reduceAdd] at *
  simp [results,Tryz.f17,go_sem,r2,r3,r4]
 have hg1:=ST1.out.g
 clear c2 c3 c4 f2 f3 f4
 go_wp2_with (first | (refine wp_loadAtG rfl 23 (.tmp 2) rfl _ _ _ rfl hg1 Tryz.underlying23 rfl (by kernel_rfl) ?_))
 refine (parts_any G S I J w1).mono ?_
 rintro e w2 ⟨rfl,hA2,hb2⟩
 have ST2:=Lib.hid (ST1.out.below hb2)
 have hB1:=ST1.out.sz
 have hB2:=hA2.lt
 clear ST1 hg1 cx hb2
 generalize w1.heap.size = B at *
 clear w1
 obtain ⟨h1,h2,h3,h4,h5,h6,h7,h8,h9,h10,h11⟩:=(mayG_iff G S I J).1 HM.out
 obtain ⟨g,rfl⟩:∃ g:Nat,G = (g:Int):=⟨G.toNat,by omega⟩
 have hnb:nBl (g:Int) S I J = 2 + J + (g:Int) * S:=by unfold nBl;rw [HM.out];rfl
 go_wp2_with fail
 apply wp_rangeIx4 (gf:=90) (lb:=#[.pointer (some ⟨B,0,none⟩)]) rfl (enters_of Tryz.func90 (by kernel_rfl) rfl)
  (parts_iter 4 (by decide) B g S I J HM.out) (fun k => rfl) 117 (fun k => ptF S (I / 4) J k)
  (fun k W => Hid (frF S (I / 4) J k ≤ x) ∧ WhS w g S I J x 0 0 0 W)
  (fun c k W => c = .ret ∧ ∃ K A B,Hid (WhatIs g S I J x K A B) ∧ WhS w g S I J x K A B W)
  (fun k => (LocalP.pure _ _).and (WhS.loc (by omega)))
  (fun c k => (LocalP.pure _ _).and (LocalP.ex fun K => LocalP.ex fun A => LocalP.ex fun B => (LocalP.pure _ _).and (WhS.loc (by omega))))
  (fun k => LocalP.at _ _ hB2)
  ⟨(show (0:Int) ≤ x by omega),ST2.out⟩ hA2
 case assign =>
  intro l k W K hk hK
  dsimp only
  have HF:=Lib.hid (ptF_form (g:=g) (t:=I / 4) h3 h4 (by omega) h10 h8 h9 (by omega) k (by rwa [Int.toNat_natCast] at hk))
  have hcsz:(ptF S (I / 4) J k).size = 5:=by obtain ⟨K',Gg,Fr,Sz,Pl,he,_⟩:=HF.out;rw [he];rfl
  have hc1:(ptF S (I / 4) J k).all (·.oneCell') = true:=by obtain ⟨K',Gg,Fr,Sz,Pl,he,_⟩:=HF.out;rw [he];exact all_p _ _ _ _ _
  have hinf:(Tryz.prog.info? 117).map (·.size) = some (ptF S (I / 4) J k).size:=by rw [hcsz];exact info_part
  have hA:=At.new W 117 (pcells 0 0 0 0 0)
  have hal:=zero_part
  have hs0:(pcells 0 0 0 0 0).size = (ptF S (I / 4) J k).size:=by rw [hcsz];rfl
  clear hcsz hk
  gi_wp2_with (first | (refine wpIn_storeAt rfl 117 (.tmp 7) (.tmp 17) rfl W.heap.size (ptF S (I / 4) J k) (pcells 0 0 0 0 0) rfl rfl hA hinf hs0 hc1 ?_))
  intro w4 hA4 ho4
  have hb:=storedP ho4
  clear ho4 hA
  obtain ⟨p,hp⟩:∃ p,p = W.heap.size:=⟨_,rfl⟩
  rw [← hp] at hA4 ⊢
  gi_wp2
  exact hK p w4 hp hb hA4
 case body =>
  rintro l k p W hk ⟨HP,st⟩ hn hp
  rw [Int.toNat_natCast] at hk
  obtain ⟨K,Gg,Sz,Pl,he,⟨b1,b2,b4,b5,b6,b7,b8⟩,hcase⟩:=ptF_fr (g:=g) (t:=I / 4) h3 h4 (by omega) h10 h8 h9 (by omega) k hk
  have HE:=Lib.hid he
  obtain ⟨Fr,hFr⟩:∃ Fr,frF S (I / 4) J k = Fr:=⟨_,rfl⟩
  have HFR:=Lib.hid hFr
  rw [hFr] at he hcase b1 b6 HP HE
  clear hFr
  rw [he] at hp
  have HC:=Lib.hid hcase
  have cx:W.cell? ⟨w.heap.size + 1,0,none⟩ = some (.int .i64 x):=st.x.cell (i:=0) rfl
  have p2:W.cell? ⟨p,2,none⟩ = some (.int .i64 Fr):=hp.cell (i:=2) rfl
  have p3:W.cell? ⟨p,3,none⟩ = some (.int .i64 Sz):=hp.cell (i:=3) rfl
  have e0:IntKind.i64.wrap (Fr + Sz) = Fr + Sz:=IntWalk.i64_in _ (by omega)
  have ST:=Lib.hid st
  have HN:=Lib.hid hn
  have HPP:=Lib.hid hp
  clear hcase st hn hp
  by_cases hlt:x < Fr + Sz
  ·have HO:Hid (WhatIs g S I J x K Gg (Pl + x - Fr)):=.inr ⟨HM.out,k,Sz,Pl,by omega,by rw [HFR.out];exact HE.out,by rw [HFR.out];exact HP.out,by rw [← HC.out];exact hlt,by rw [HFR.out]⟩
   have e1:IntKind.i64.wrap (Pl + x) = Pl + x:=IntWalk.i64_in _ (by omega)
   have e2:IntKind.i64.wrap (Pl + x - Fr) = Pl + x - Fr:=IntWalk.i64_in _ (by omega)
   gi_wp2
   refine Mv.wpIn_region_mc (WhC w g S I J x K Gg (Pl + x - Fr) p (pcells K Gg Fr Sz Pl) w2.heap.size W) ⟨0,undef⟩ (by kernel_rfl) (by kernel_rfl) (by kernel_rfl) (by kernel_rfl) ?_ ?_
   ·exact ⟨⟨ST.out.g,ST.out.x,ST.out.k,ST.out.a,ST.out.b,ST.out.bel.drew⟩,HPP.out,drewN_keeps W 1⟩
   intro hne
   have hp0:∀ y:InW (fun W' => ∃ s,WhC w g S I J x K Gg (Pl + x - Fr) p (pcells K Gg Fr Sz Pl) w2.heap.size W s W'),y.W.cell? ⟨p,0,none⟩ = some (.int .u8 K):=fun y => by obtain ⟨s,h⟩:=y.h;exact h.p.cell (i:=0) rfl
   have hp1:∀ y:InW (fun W' => ∃ s,WhC w g S I J x K Gg (Pl + x - Fr) p (pcells K Gg Fr Sz Pl) w2.heap.size W s W'),y.W.cell? ⟨p,1,none⟩ = some (.int .i64 Gg):=fun y => by obtain ⟨s,h⟩:=y.h;exact h.p.cell (i:=1) rfl
   have hp2:∀ y:InW (fun W' => ∃ s,WhC w g S I J x K Gg (Pl + x - Fr) p (pcells K Gg Fr Sz Pl) w2.heap.size W s W'),y.W.cell? ⟨p,2,none⟩ = some (.int .i64 Fr):=fun y => by obtain ⟨s,h⟩:=y.h;exact h.p.cell (i:=2) rfl
   have hp4:∀ y:InW (fun W' => ∃ s,WhC w g S I J x K Gg (Pl + x - Fr) p (pcells K Gg Fr Sz Pl) w2.heap.size W s W'),y.W.cell? ⟨p,4,none⟩ = some (.int .i64 Pl):=fun y => by obtain ⟨s,h⟩:=y.h;exact h.p.cell (i:=4) rfl
   have hpx:∀ y:InW (fun W' => ∃ s,WhC w g S I J x K Gg (Pl + x - Fr) p (pcells K Gg Fr Sz Pl) w2.heap.size W s W'),y.W.cell? ⟨w.heap.size + 1,0,none⟩ = some (.int .i64 x):=fun y => by obtain ⟨s,h⟩:=y.h;exact h.s.x.cell (i:=0) rfl
   (refine Mv.lin_take 11 (by kernel_rfl) ?_;simp only [List.take_succ_cons,List.take_zero,List.drop_succ_cons,List.drop_zero])
   first | go_big_quiet_skip | (go_big_quiet_want;go_big_quiet_op;go_big_quiet_on)
   first | go_big_quiet_skip | (go_big_quiet_want;go_big_quiet_op;go_big_quiet_on)
   first | go_big_quiet_skip | (go_big_quiet_want;go_big_quiet_op;go_big_quiet_on)
   first | go_big_quiet_skip | (go_big_quiet_want;go_big_quiet_op;go_big_quiet_on)
   first | go_big_quiet_skip | (go_big_quiet_want;go_big_quiet_op;go_big_quiet_on)
   first | go_big_quiet_skip | (go_big_quiet_want;go_big_quiet_op;go_big_quiet_on)
   first | go_big_quiet_skip | (go_big_quiet_want;go_big_quiet_op;go_big_quiet_on)
   first | go_big_quiet_skip | (go_big_quiet_want;go_big_quiet_op;go_big_quiet_on)
   first | go_big_quiet_skip | (go_big_quiet_want;go_big_quiet_op;go_big_quiet_on)
   first | go_big_quiet_skip | (go_big_quiet_want;go_big_quiet_op;go_big_quiet_on)
   first | go_big_quiet_skip | (go_big_quiet_want;go_big_quiet_op;go_big_quiet_on)
   refine wpQuiet_nil ?_
   refine Mv.lin_store1 rfl 5 (.tmp 4) (.tmp 26) rfl (w.heap.size + 1 + 1) 0 (.int .u8 K) rfl rfl info_u8 rfl ⟨1,undef⟩ (fun W' hW => ⟨⟨_,hW.s.k.cell (i:=0) rfl⟩,soft_of_heap hW.s.k 0,hW.s1⟩) ?_
   refine Mv.frame (by simp only [Act.put];exact rfl) ?_
   refine Mv.lin_store1 rfl 3 (.tmp 5) (.tmp 28) rfl (w.heap.size + 1 + 1 + 1) 0 (.int .i64 Gg) rfl rfl info_i64 rfl ⟨2,undef⟩ (fun W' hW => ⟨⟨_,hW.s.a.cell (i:=0) rfl⟩,soft_of_heap hW.s.a 0,hW.s2⟩) ?_
   refine Mv.frame (by simp only [Act.put];exact rfl) ?_
   refine Mv.lin_store1 rfl 3 (.tmp 6) (.tmp 35) rfl (w.heap.size + 1 + 1 + 1 + 1) 0 (.int .i64 (Pl + x - Fr)) rfl rfl info_i64 rfl ⟨3,undef⟩ (fun W' hW => ⟨⟨_,hW.s.b.cell (i:=0) rfl⟩,soft_of_heap hW.s.b 0,hW.s3⟩) ?_
   refine Mv.frame (by simp only [Act.put];exact rfl) ?_
   refine Mv.wpLin_nil ?_
   intro W5 h5
   clear hne hp0 hp1 hp2 hp4 hpx
   gi_wp2
   exact ⟨h5.keep,rfl,K,Gg,_,HO,h5.s⟩
  ·have hpast:Hid (frF S (I / 4) J (k + 1) ≤ x):=by show _ ≤ _;rw [← HC.out];omega
   gi_wp2
   exact ⟨KeepsFrom.refl _ _,⟨hpast,ST.out⟩,HN.out⟩
 case done =>
  rintro D W hD ⟨HP,st⟩ hK
  have HO:Hid (WhatIs g S I J x 0 0 0):=.inl ⟨.inr (.inr (by
   have:=HP.out
   rw [Int.toNat_natCast,frF_end] at this
   rw [hnb];exact this)),rfl,rfl,rfl⟩
  have c2:W.cell? ⟨w.heap.size + 1 + 1,0,none⟩ = some (.int .u8 0):=st.k.cell (i:=0) rfl
  have c3:W.cell? ⟨w.heap.size + 1 + 1 + 1,0,none⟩ = some (.int .i64 0):=st.a.cell (i:=0) rfl
  have c4:W.cell? ⟨w.heap.size + 1 + 1 + 1 + 1,0,none⟩ = some (.int .i64 0):=st.b.cell (i:=0) rfl
  have f2:W.frozen? ⟨w.heap.size + 1 + 1,0,none⟩ = false:=soft_of_heap st.k 0
  have f3:W.frozen? ⟨w.heap.size + 1 + 1 + 1,0,none⟩ = false:=soft_of_heap st.a 0
  have f4:W.frozen? ⟨w.heap.size + 1 + 1 + 1 + 1,0,none⟩ = false:=soft_of_heap st.b 0
  have ST:=Lib.hid st
  have HK:=Lib.hid hK
  clear st hK
  go_wp2_with fail
  have hst:=((ST.out.setK 0).setA 0).setB 0
  have hKD:=((((Only.setCell _ _ _).block D (by simp;omega)).trans (((Only.setCell _ _ _).block D (by simp;omega)).trans ((Only.setCell W ⟨w.heap.size + 2,0,none⟩ (.int .u8 0)).block D (by simp;omega)))).trans HK.out:((((W.setCell ⟨w.heap.size + 2,0,none⟩ (.int .u8 0)).setCell ⟨w.heap.size + 3,0,none⟩ (.int .i64 0)).setCell ⟨w.heap.size + 4,0,none⟩ (.int .i64 0))).heap[D]? = some (.deferred (some [])))
  have r2:=cell_putObj (D:=D) (o':=.deferred none) hKD rfl (hst.k.cell (i:=0) (v:=.int .u8 0) rfl)
  have r3:=cell_putObj (D:=D) (o':=.deferred none) hKD rfl (hst.a.cell (i:=0) (v:=.int .i64 0) rfl)
  have r4:=cell_putObj (D:=D) (o':=.deferred none) hKD rfl (hst.b.cell (i:=0) (v:=.int .i64 0) rfl)
  refine bodyPostM_done (v:=.tuple #[.int .u8 0,.int .i64 0,.int .i64 0]) (D:=D) hKD ?_ ⟨0,0,0,rfl,HO.out,below_putObj hst.bel _ (Nat.le_refl _) (by omega)⟩
  simp only [Nat.add_assoc,Nat.reduceAdd] at *
  simp [results,Tryz.f17,go_sem,r2,r3,r4]
 case stop =>
  rintro D c k W hD hk ⟨rfl,K,A,B',HO,st⟩ hK
  have ST:=Lib.hid st
  have HK:=Lib.hid hK
  clear st hK
  go_wp2_with fail
  have r2:=cell_putObj (D:=D) (o':=.deferred none) HK.out rfl (ST.out.k.cell (i:=0) (v:=.int .u8 K) rfl)
  have r3:=cell_putObj (D:=D) (o':=.deferred none) HK.out rfl (ST.out.a.cell (i:=0) (v:=.int .i64 A) rfl)
  have r4:=cell_putObj (D:=D) (o':=.deferred none) HK.out rfl (ST.out.b.cell (i:=0) (v:=.int .i64 B') rfl)
  refine bodyPostM_done (v:=.tuple #[.int .u8 K,.int .i64 A,.int .i64 B']) (D:=D) HK.out ?_ ⟨K,A,B',rfl,HO.out,below_putObj ST.out.bel _ (Nat.le_refl _) (by omega)⟩
  simp only [Nat.add_assoc,Nat.reduceAdd] at *
  simp [results,Tryz.f17,go_sem,r2,r3,r4]
end Go.Proofs.YtphamecphmbipaaGreatDoor

namespace Go.Proofs.YtphamecphmbipaaGreatDoor
open Go.RowKit
set_option linter.unusedVariables false
variable {P:Program}
theorem Kept.at {B b:Nat} (T:TypeId) (cs:Array Value):Kept B (fun W => At W b T cs):=fun W W' row hs hg hr => by
 refine (hg.block b hs.lt fun e => ?_).trans hs
 obtain ⟨_,o,ho,hc⟩:=hr b e.symm
 have:some (Obj.cells cs T (0,0)) = some o:=Eq.trans (Eq.symm hs) ho
 injection this with this
 subst this
 cases hc
theorem Kept.below {B n:Nat} (w:World) (hn:n ≤ B) (hw:n ≤ w.heap.size):Kept B (fun W => Below n w W):=Kept.ofLocal (LocalP.below w hn hw)
end Go.Proofs.YtphamecphmbipaaGreatDoor

namespace Go.Proofs.YtphamecphmbipaaGreatDoor
open Go.RowKit
variable {P:Program}
theorem wp_rangeIxK {g:Operand} {ps:Array Tmp} {asg bdy:Code} {Q:Exit → Act → World → Prop} {a:Act} {w:World} {gf:Nat} {lb:Array Value}
  (hg:a.eval g = .func (.func gf) #[] lb) (eg:∀ args w,(callFunc gf args).run P w = .ok (.enter gf args) w)
  {encs:Nat → Array Value} {N:Nat} {Need:Nat → World → Prop} (hit:IterIx Fence.wide 4 P gf lb encs N (fun _ => False) Need) (hps:∀ k,(encs k).size = ps.size)
  (J:Nat → World → Prop) (Jx:Code → Nat → World → Prop)
  (hJ:∀ k,Kept w.heap.size (J k)) (hJx:∀ c k,Kept w.heap.size (Jx c k)) (hN:∀ k,Kept w.heap.size (Need k)) (h0:J 0 w) (hn0:Need 0 w) (A1:Nat → Act)
  (assign:∀ (l k:Nat) (W:World) (K:Act → World → Prop),k < N → K (A1 k) W →
   asg.wpIn (Fence.wide.inRound l) 3 P (Exit.then K (fun _ _ _ => False)) { tmps:=(ps.zip (encs k)).foldl (fun t (p,v) => t.setIfInBounds p v) a.tmps,defers:=[] } W)
  (body:∀ (l k:Nat) (W:World),k < N → J k W → Need k W → bdy.wpIn (Fence.wide.inRound l) 3 P (roundIx w.heap.size J Jx Need k W) (A1 k) W)
  (done:∀ (D:Nat) (W:World),w.heap.size ≤ D → J N W → W.heap[D]? = some (.deferred (some [])) → Q .normal { a with defers:={ target:=.collected D,args:=#[] } :: a.defers } W)
  (stop:∀ (D:Nat) (c:Code) (k:Nat) (W:World),w.heap.size ≤ D → k < N → Jx c k W → W.heap[D]? = some (.deferred (some [])) → c.wp P Q { a with defers:={ target:=.collected D,args:=#[] } :: a.defers } W) :
  (Code.rangeFunc g ps asg bdy).wp P Q a w:=by
 refine (wpIn_wide (n:=5)).1 ?_
 exact wpIn_rangeIx rfl (by decide) hg trivial eg hit (fun r h => h.elim) hps J Jx (fun k a' _ => a' = A1 k)
  (Kept.from hJ) (fun c => Kept.from (hJx c)) (Kept.from hN) (fun a' => Kept.from (fun k => Kept.pure _ _))
  (fun k A C hs ht => (hJ k).turns hs ht) (fun c k A C hs ht => (hJx c k).turns hs ht) h0 hn0
  (fun l k W K hk hj hn hK => assign l k W K hk (hK _ _ (KeepsFrom.refl _ _) hj hn rfl))
  (fun l k a' W hk hj hn ha => by subst ha;exact body l k W hk hj hn)
  done (fun D c k W h1 h2 h3 h4 => wpIn_wide.2 (stop D c k W h1 h2 h3 h4))
end Go.Proofs.YtphamecphmbipaaGreatDoor

namespace Go.Proofs.YtphamecphmbipaaGreatDoor.Mv
open Go.RowKit Go.Proofs.YtphamecphmbipaaGreatDoor
set_option linter.unusedVariables false
def noDefer (o:Oper):Bool:=match o.op with | .defer _ => false | _ => true
section
variable {m:Nat} {P:Program} {ops:Array Oper} {md:Region.Mode} {σ:Type} {C:σ → World → Prop} {lp:Nat}
theorem no_defer {o:Oper} (ho:noDefer o = true) (c):o.op ≠ .defer c:=by
 intro h;unfold noDefer at ho;rw [h] at ho;cases ho
theorem wpOpIn_of_lin2 (ht:ops.all noDefer = true) {i:Nat} {s:σ} {a:Act} {K:σ → Act → Prop} {K':Act → World → Prop} {Q':Exit → Act → World → Prop} {w:World} (hC:C s w) (h:∀ s a w',C s w' → K s a → K' a w') (hh:linOp P ops C i K s a) :
  wpOpIn (Fence.wide.inRound lp) m P ops Q' i K' a w:=by
 unfold linOp at hh
 unfold wpOpIn
 split
 ·rename_i ho;simp only [ho] at hh;exact h _ _ _ hC hh
 ·rename_i o ho
  simp only [ho] at hh
  have hta:noDefer o = true:=by
   rw [Array.all_eq_true_iff_forall_mem] at ht
   exact ht o (Array.mem_of_getElem? ho)
  have hab:∀ f,o.about P w a.eval = some f → (Fence.wide.inRound lp).fn f:=fun f _ => trivial
  rcases hh with ⟨hw,hy⟩ | ⟨hw,hk⟩
  ·simp only [hw,if_true]
   unfold Oper.wpIn
   refine ⟨hab,?_⟩
   rw [Oper.semAt_plain _ _ _ (no_defer hta)]
   rcases hy with ⟨_,hk⟩ | ⟨_,v,hs,hk⟩
   ·have h3:=hk w hC
    generalize (execOp a.eval o).run P w = r at *
    cases r with
    | ok n w' =>
     cases n <;> simp only [movesUpon] at h3 <;> simp only [Oper.uponIn]
     ·obtain ⟨s',h4,h5⟩:=h3;exact h _ _ _ h4 h5
     ·obtain ⟨s',h4,h5⟩:=h3;exact h _ _ _ h4 h5
     ·refine ⟨fun e => by simp [Fence.wide] at e,CallsIn.inRound lp (callsIn_wide.2 (h3.mono ?_))⟩
      rintro e w2 ⟨v,rfl,s',h4,h5⟩
      exact h _ _ _ h4 h5
    | halt x w' => simp only [movesUpon] at h3
   ·have h3:=hs w ⟨_,hC⟩
    generalize (execOp a.eval o).run P w = r at *
    cases r with
    | ok n w' =>
     cases n <;> simp only [stillUpon] at h3 <;> simp only [Oper.uponIn]
     ·obtain ⟨rfl,rfl⟩:=h3;exact h _ _ _ hC hk
     ·obtain ⟨rfl,rfl⟩:=h3;exact h _ _ _ hC hk
    | halt x w' => simp only [stillUpon] at h3
  ·rw [if_neg (by rw [hw];decide)]
   exact ⟨hab,h _ _ _ hC hk⟩
theorem wpAnyIn_of_lin2 (ht:ops.all noDefer = true) {Q:σ → Act → Prop} {Q':Exit → Act → World → Prop} (hQ:∀ s a w,C s w → Q s a → Q' .normal a w):∀ (fuel:Nat) (listed:Array Bool) (s:σ) (a:Act) (w:World),C s w →
  wpAnyL P md ops C Q fuel listed s a → wpAnyIn (Fence.wide.inRound lp) m P md ops Q' fuel listed a w
 | 0,_,_,_,_,hw,h => ⟨h.1,hQ _ _ _ hw h.2⟩
 | fuel + 1,_,_,_,_,hw,h => ⟨fun h0 => hQ _ _ _ hw (h.1 h0),fun i hi => wpOpIn_of_lin2 ht hw (fun s' a' w' hw' => wpAnyIn_of_lin2 ht hQ fuel _ s' a' w' hw') (h.2 i hi)⟩
theorem wpIn_region_mw (C:σ → World → Prop) (s:σ) {id:Nat} {Q:Exit → Act → World → Prop} {a:Act} {w:World} {l:List Oper} (hm:P.follows .mixedOrders = true) (hB:Region.lexB .any l.toArray = true) (hch:chainC .any l.toArray = true) (ht:l.toArray.all noDefer = true) (hC:C s { w with drawn:=w.drawn + 1 })
  (h:Nonempty (InW fun w => ∃ s,C s w) → wpLin P l.toArray C (fun s a' => ∀ w',C s w' → Q .normal a' w') l s a):(Code.region id l.toArray true).wpIn (Fence.wide.inRound lp) m P Q a w:=by
 simp only [Region.lexB,Bool.and_eq_true] at hB
 refine wpIn_region_any hm (wpAnyIn_of_lin2 ht (Q:=fun s a' => ∀ w',C s w' → Q .normal a' w') (fun _ _ w' hw' h => h w' hw') _ _ s _ _ hC ?_)
 have:=wpAnyL_lexC (C:=C) (md:=.any) calls_some hch hB.1 l 0 (Array.replicate l.toArray.size false) s a ⟨_,hC⟩ (fun j oj hj hl => by
   rcases Nat.lt_or_ge j l.toArray.size with h' | h'
   ·rw [List.size_toArray] at h';simp [h'] at hl
   ·rw [List.size_toArray] at h';simp [h'] at hl) (fun j hj => by omega) (by simp) (by simpa using hB.2) (h ⟨⟨_,s,hC⟩⟩)
 simpa using this
def Nm (Q:Exit → Act → World → Prop):Exit → Act → World → Prop
 | .normal,a,w => Q .normal a w
 | _,_,_ => False
theorem Nm.mk {Q:Exit → Act → World → Prop} {a:Act} {w:World} (h:Q .normal a w):Nm Q .normal a w:=h
theorem Nm.no (Q:Exit → Act → World → Prop):¬ LetsOut (Nm Q):=fun ⟨_,_,h⟩ => h
theorem wpOpIn_of_op {Q:Exit → Act → World → Prop} {i:Nat} {K K':Act → World → Prop} (ht:ops.all noDefer = true) (hK:∀ a w,K a w → K' a w) {a:Act} {w:World} (h:wpOp P ops (Nm Q) i K a w) :
  wpOpIn (Fence.wide.inRound lp) m P ops Q i K' a w:=by
 unfold wpOp at h
 unfold wpOpIn
 split
 ·rename_i ho;simp only [ho] at h;exact hK _ _ h
 ·rename_i o ho
  simp only [ho] at h
  have hmem:=Array.mem_of_getElem? ho
  have hta:noDefer o = true:=by
   rw [Array.all_eq_true_iff_forall_mem] at ht
   exact ht o hmem
  by_cases hw:Region.wanted o (yielded ops a.tmps) = true
  ·simp only [hw,if_true] at h ⊢
   rcases h with h | ⟨_,h⟩
   rotate_left
   ·exact absurd h (Nm.no Q)
   unfold Oper.wpIn
   refine ⟨fun f _ => trivial,?_⟩
   rw [Oper.semAt_plain _ _ _ (no_defer hta)]
   unfold Oper.wp at h
   generalize (execOp a.eval o).run P w = r at *
   cases r with
   | ok n w' =>
    cases n with
    | value v => exact hK _ _ h
    | skip => exact hK _ _ h
    | «defer» d => exact hK _ _ h
    | enter f args =>
     refine ⟨fun e => by simp [Fence.wide] at e,CallsIn.inRound lp (callsIn_wide.2 (Calls.mono h ?_))⟩
     intro e w2 h2
     cases e with
     | returned v => exact hK _ _ h2
     | panicked ch => exact h2.elim
     | outgrown => exact absurd h2 (Nm.no Q)
    | row r args =>
     refine ⟨fun e => by simp [Fence.wide] at e,fun c cs _ => ?_⟩
     obtain ⟨v,w2,hR,hs⟩:=h c cs
     exact ⟨v,w2,hK _ _ hR,stepsIn_wide.2 hs⟩
    | _ => exact h.elim
   | halt x w' =>
    cases x with
    | panic v => exact h.elim
    | _ => exact h.elim
  ·simp only [hw] at h ⊢
   exact ⟨fun f _ => trivial,hK _ _ h⟩
theorem wpAnyIn_of_any {Q:Exit → Act → World → Prop} (ht:ops.all noDefer = true):∀ (fuel:Nat) (listed:Array Bool) (a:Act) (w:World),wpAny P md ops (Nm Q) fuel listed a w → wpAnyIn (Fence.wide.inRound lp) m P md ops Q fuel listed a w
 | 0,_,_,_,h => h
 | fuel + 1,_,_,_,h => ⟨h.1,fun i hi => wpOpIn_of_op ht (fun a' w' h' => wpAnyIn_of_any ht fuel _ a' w' h') (h.2 i hi)⟩
theorem wpIn_region_mb (C:σ → World → Prop) (s:σ) (n:Nat) {id:Nat} {Q:Exit → Act → World → Prop} {a:Act} {w:World} {L:List Oper} (hm:P.follows .mixedOrders = true) (hB:Region.lexB .any (L.take n).toArray = true) (hch:chainC .any (L.take n).toArray = true)
  (hb:barB2 .any n L.toArray = true) (hd:downB .any L.toArray = true) (hd1:downB .any (L.take n).toArray = true) (ht:L.toArray.all noDefer = true) (hn:n ≤ L.length) (hC:C s { w with drawn:=w.drawn + 1 })
  (h:Nonempty (InW fun w => ∃ s,C s w) → wpLin P (L.take n).toArray C (fun s a' => ∀ w',C s w' → wpList P L.toArray (Nm Q) (L.drop n) a' w') (L.take n) s a):(Code.region id L.toArray true).wpIn (Fence.wide.inRound lp) m P Q a w:=by
 simp only [Region.lexB,Bool.and_eq_true] at hB
 have hlen:(L.take n).length = n:=by simp [Nat.min_eq_left hn]
 have hq:=wpAnyL_lexC (P:=P) (C:=C) (md:=.any) calls_some hch (Q:=fun s a' => ∀ w',C s w' → wpList P L.toArray (Nm Q) (L.drop n) a' w') hB.1 (L.take n) 0 (Array.replicate n false) s a ⟨_,hC⟩ (fun j oj hj hl => by
   rcases Nat.lt_or_ge j n with h' | h'
   ·simp [h'] at hl
   ·simp [h'] at hl) (fun j hj => by omega) (by simp) (by have:=hB.2;simpa [Nat.min_eq_left hn] using this) (h ⟨⟨_,s,hC⟩⟩)
 rw [hlen] at hq
 have:=bar_head3 (P:=P) (md:=.any) (ops:=L.toArray) (ops1:=(L.take n).toArray) (l2:=L.drop n) (n:=n) (C:=C) hb hd hd1 (by simp [Nat.min_eq_left hn]) (fun i hi => by simp [hi]) (fun j => by simp)
  (Q:=Nm Q) (Q1:=fun s a' => ∀ w',C s w' → wpList P L.toArray (Nm Q) (L.drop n) a' w') (fun s a w hw h => h w hw) n (Array.replicate n false) (Array.replicate L.length false) s a { w with drawn:=w.drawn + 1 } hC (fun j oj hj hl e he hbe => by
   rcases Nat.lt_or_ge j L.length with h' | h'
   ·simp [h'] at hl
   ·simp [h'] at hl) (by simp) (by simp)
  (fun i hi => by simp [hi,show i < L.length by omega]) (fun i hi hs => by simp at hs;simp [hs]) hq
 rw [show (L.drop n).length + n = L.length by simp;omega] at this
 refine wpIn_region_any hm (wpAnyIn_of_any ht _ _ _ _ ?_)
 simpa using this
end
end Go.Proofs.YtphamecphmbipaaGreatDoor.Mv

namespace Go.Proofs.YtphamecphmbipaaGreatDoor
open Go.RowKit
set_option linter.unusedVariables false
section
variable {w:World} {G S I J:Int} {la:Option Addr} {N:Nat} {L:Nat → Nat → Int} {hs ht:Int} {av:Value} {nn E:Int} {W W':World}
end
def st3 (W:World) (B:Nat) (v:Value) (nn E:Int):World:=((W.setCell ⟨B + 1 + 1,0,none⟩ v).setCell ⟨B + 1 + 1 + 1,0,none⟩ (.int .u32 nn)).setCell ⟨B + 1 + 1 + 1 + 1,0,none⟩ (.int .i64 E)
section
variable {w:World} {G S I J:Int} {la:Option Addr} {N:Nat} {L:Nat → Nat → Int} {hs ht:Int} {av:Value} {nn E:Int} {W W':World}
end
section
variable {w:World} {G S I J:Int} {la:Option Addr} {N:Nat} {L:Nat → Nat → Int} {hs ht:Int} {av:Value} {nn E:Int} {W W':World}
end
section
variable {w:World} {G S I J:Int} {la:Option Addr} {N:Nat} {L:Nat → Nat → Int} {hs ht:Int} {av:Value} {nn E:Int} {W W':World}
end
theorem at_own_neS {W:World} {p base k size:Nat} {T e:TypeId} {cs:Array Value} {v:Value} {xs:List Value} (hA:At W p T cs) (h:W.ownsRow base e size v k xs) (he:e ≠ T):v.ownBlock ≠ some p:=by
 intro hp
 rcases h.2 with ⟨rfl,_⟩ | ⟨q,cap,cur,rfl,_,hh,_⟩
 ·cases hp
 ·injection hp with hp
  subst hp
  have:=hA.symm.trans hh
  injection this with this
  injection this with _ h2
  exact he h2.symm
section
variable {w:World} {p8:Nat} {hs ht:Int} {a:Option Addr} {n c:Nat} {l:List Tr} {X:Int} {D:Nat} {o:Option Obj} {a0:Act} {f:Nat → Bool} {a':Act} {W W':World}
end
section
variable {w:World} {G S I J:Int} {la:Option Addr} {N:Nat} {L:Nat → Nat → Int} {hs ht:Int} {av:Value} {nn E:Int} {W W':World}
theorem keeps_cell {B b:Nat} {v u:Value} {T:TypeId} (hA:At W b T #[u]):KeepsFrom B W (W.setCell ⟨b,0,none⟩ v):=(Only.setCell W ⟨b,0,none⟩ v).keeps (hA.cell (i:=0) rfl)
theorem keeps_own {B base k size:Nat} {e:TypeId} {v:Value} {xs:List Value} (ho:W.ownsRow base e size v k xs) (hg:W.grownBy W' v.ownBlock):KeepsFrom B W W' :=
 ⟨hg.size,fun i o _ hi hc => by
  refine (hg.block i (Array.getElem?_eq_some_iff.1 hi).1 (fun e => ?_)).trans hi
  rcases ho.2 with ⟨hv,_⟩ | ⟨g',cap',cur,hv,hbg,hg',_⟩
  ·subst hv;cases e
  ·subst hv
   have:i = g':=by simpa [Value.ownBlock] using e
   subst this
   rw [hi] at hg'
   injection hg' with hg'
   subst hg'
   cases hc⟩
end
end Go.Proofs.YtphamecphmbipaaGreatDoor
