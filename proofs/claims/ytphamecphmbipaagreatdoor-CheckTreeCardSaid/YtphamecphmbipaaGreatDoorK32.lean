/- Texts of this claim, merged. -/
import Derived.Test.YtphamecphmbipaaGreatDoorK31
namespace Go.Proofs.YtphamecphmbipaaGreatDoor
open Go.RowKit
set_option linter.unusedVariables false
theorem GwS.only_new {S:Nat → Prop} {a b c:World} {g:Nat} (h:GwS S a b) (k:Only g b c) (hg:a.heap.size ≤ g):GwS S a c :=
 ⟨k.os.trans h.os,k.tape.trans h.tape,k.output.trans h.output,by rw [k.size];exact h.size,fun j hj hn => (k.block j (by omega)).trans (h.block j hj hn)⟩
abbrev sucells (x:Im) (o:Nat):Array Value:=#[.int .i64 (x.g:Int),.int .i64 (x.s:Int),.int .i64 (x.i:Int),.int .i64 (x.j:Int),.int .u32 (o:Int)]
structure EdS (B M q Y N p s0:Nat) (x:Im) (m:MS) (ys:Nat → Ino) (o:Nat) (d:PlAd) (P:PlanD) (w W:World):Prop where
 h:HgS M q Y N x m ys w W
 bx:At W p 27 (plRow x.g x.s x.i x.j d P)
 su:At W s0 47 (sucells x o)
 r:PlnR B d P W
 lp:w.heap.size ≤ p
 ls:w.heap.size ≤ s0
 np:¬ MY M q Y p
 ns:¬ MY M q Y s0
 nps:p ≠ s0
 nb:∀ j,j < B → ¬ MY M q Y j
 lb:B ≤ w.heap.size
section
variable {B M q Y N p s0 o:Nat} {x:Im} {m m':MS} {ys ys':Nat → Ino} {d:PlAd} {P:PlanD} {w W W':World}
theorem EdS.to (h:EdS B M q Y N p s0 x m ys o d P w W) (hs:HgS M q Y N x m' ys' W W'):EdS B M q Y N p s0 x m' ys' o d P w W' :=
 ⟨⟨hs.p,hs.y,h.h.gr.trans hs.gr⟩,h.bx.gwS hs.gr h.np,h.su.gwS hs.gr h.ns,h.r.gwS hs.gr (Nat.le_trans h.lb h.h.gr.size) h.nb,h.lp,h.ls,h.np,h.ns,h.nps,h.nb,h.lb⟩
theorem EdS.self (h:EdS B M q Y N p s0 x m ys o d P w W):HgS M q Y N x m ys W W:=⟨h.h.p,h.h.y,.refl _ _⟩
theorem EdS.below (h:EdS B M q Y N p s0 x m ys o d P w W) (hb:Below W.heap.size W W'):EdS B M q Y N p s0 x m ys o d P w W':=h.to (h.self.below hb)
theorem HgS.only {g:Nat} (h:HgS M q Y N x m ys w W) (k:Only g W W') (hg:¬ MY M q Y g) (hl:w.heap.size ≤ g):HgS M q Y N x m ys w W':=by
 obtain ⟨f,hf⟩:=h.p.k
 exact ⟨⟨⟨f,hf.only k fun e => hg (.inl e.symm)⟩,h.p.im.only k fun e => hg (.inr (.inl e.symm))⟩,h.y.only k fun e => hg (.inr (.inr e.symm)),h.gr.only_new k hl⟩
theorem EdS.only {g:Nat} (h:EdS B M q Y N p s0 x m ys o d P w W) (k:Only g W W') (hg:¬ MY M q Y g) (hl:w.heap.size ≤ g) (hgp:g ≠ p) {o':Nat} (hsu:At W' s0 47 (sucells x o')):EdS B M q Y N p s0 x m ys o' d P w W' :=
 ⟨h.h.only k hg hl,h.bx.only k (Ne.symm hgp),hsu,h.r.below (k.below (Nat.le_trans h.lb hl)),h.lp,h.ls,h.np,h.ns,h.nps,h.nb,h.lb⟩
theorem EdS.setO (h:EdS B M q Y N p s0 x m ys o d P w W) (o':Nat):EdS B M q Y N p s0 x m ys o' d P w (W.setCell ⟨s0,4,none⟩ (.int .u32 (o':Int))) :=
 h.only (Only.setCell W ⟨s0,4,none⟩ _) h.ns h.ls (Ne.symm h.nps) (h.su.setCell 4 (.int .u32 (o':Int)))
theorem HgS.putNext (h:HgS M q Y N x m ys w W) {i:Nat} (hi:i < N) (v:Int):HgS M q Y N x m (updN ys i { ys i with next:=v }) w (W.setCell ⟨Y,i * 16 + 15,none⟩ (.int .u32 v)):=by
 have ho:=Only.setCell W ⟨Y,i * 16 + 15,none⟩ (.int .u32 v)
 obtain ⟨f,hf⟩:=h.p.k
 refine ⟨⟨⟨f,hf.only ho h.neM⟩,h.p.im.only ho h.neq⟩,?_,h.gr.trans (.of_only ho (.inr (.inr rfl)))⟩
 have:=h.y.cellset (k:=i) (j:=15) hi (by omega) (fun j => inF7_len ys j) (.int .u32 v)
 refine this.congr fun j hj => ?_
 unfold inF7 updN
 by_cases e:j = i
 ·subst e;rw [if_pos rfl,if_pos rfl];rfl
 ·rw [if_neg e,if_neg e]
theorem HgS.next (h:HgS M q Y N x m ys w W) {i:Nat} (hi:i < N):W.cell? ⟨Y,i * 16 + 15,none⟩ = some (.int .u32 (ys i).next):=by
 have:=h.y.seg i hi 15 _ rfl
 rwa [Nat.zero_add] at this
end
theorem orps_last (P:PlanD) (ys:Nat → Ino):∀ k,(P.orps ys k).last ≤ k
 | 0 => Nat.le_refl _
 | k + 1 => by
  have ih:=orps_last P ys k
  show (P.orpG k (P.orps ys k)).last ≤ k + 1
  unfold PlanD.orpG
  split
  ·split <;> exact Nat.le_refl _
  ·omega
structure SAB (s t:Nat) (A B:World → Prop) (l:Nat → Bool) (W:World):Prop where
 no:l s = false → A W
 ye:l s = true → B W ∧ l t = true
theorem SAB.mono {s t:Nat} {A B:World → Prop} {l:Nat → Bool} {W W':World} (h:SAB s t A B l W) (hA:A W → A W') (hB:B W → B W'):SAB s t A B l W':=⟨fun e => hA (h.no e),fun e => ⟨hB (h.ye e).1,(h.ye e).2⟩⟩
theorem SAB.next {s t:Nat} {A B:World → Prop} {l:Nat → Bool} {W:World} (h:SAB s t A B l W) {k:Nat} (hk:k ≠ s):SAB s t A B (fun j => j == k || l j) W:=by
 have e:((s == k) || l s) = l s:=by rw [show (s == k) = false from by simpa using Ne.symm hk,Bool.false_or]
 exact ⟨fun h' => h.no (e ▸ h'),fun h' => ⟨(h.ye (e ▸ h')).1,by show ((t == k) || l t) = true;rw [(h.ye (e ▸ h')).2,Bool.or_true]⟩⟩
theorem SAB.lists {s t:Nat} {A B:World → Prop} {l l':Nat → Bool} {W:World} (h:SAB s t A B l W) (es:l s = l' s) (et:l t = l' t):SAB s t A B l' W:=⟨fun e => h.no (es.trans e),fun e => ⟨(h.ye (es.trans e)).1,et ▸ (h.ye (es.trans e)).2⟩⟩
theorem SAB.all {s t:Nat} {A B C:World → Prop} {l:Nat → Bool} {W:World} (h:SAB s t A B l W) (hA:A W → C W) (hB:B W → C W):C W:=by
 cases e:l s with
 | false => exact hA (h.no e)
 | true => exact hB (h.ye e).1
theorem putZ_byt {z:Nat → Int} (hz:Byt z) {y:Ino} (hy:y.Ok) (a:Int):Byt (putZ z a y):=by
 unfold putZ
 split
 ·rename_i h
  unfold putOk at h
  rw [Bool.and_eq_true,decide_eq_true_eq] at h
  have:=Ino.byt_stage hy (Ino.may_bd h.2).2.2 14
  exact byt_over hz (fun i => by rw [← Ino.stage_all];exact this i) _ _
 ·exact hz
theorem tab_byt (x:Im) {L:Nat → Nat → Int} (hL:∀ b,Byt (L b)) {ino:Nat → Ino} {N:Nat} (hi:∀ k,k < N → (ino k).Ok):∀ k,k ≤ N → ∀ b,Byt ((PlanD.tab x L ino k).L b)
 | 0,_ => hL
 | k + 1,hk => by
  have ih:=tab_byt x hL hi k (by omega)
  show ∀ b,Byt ((PlanD.tabF x ino k (PlanD.tab x L ino k)).L b)
  unfold PlanD.tabF
  dsimp only
  have h1:∀ b,Byt (updN (PlanD.tab x L ino k).L (x.ib (k + 1)) (putZ ((PlanD.tab x L ino k).L (x.ib (k + 1))) (x.ia (k + 1):Nat) (ino k)) b):=fun b => by
   unfold updN;split
   ·exact putZ_byt (ih _) (hi k (by omega)) _
   ·exact ih b
  split
  ·intro b
   unfold updN;split
   ·exact turnZ_byt _ _
   ·exact h1 b
  ·exact h1
structure C29 (M q n p ds m:Nat) (gc:List Value) (f:Nat → List Value) (W:World):Prop where
 c0:W.cell? ⟨M,0,none⟩ = some (.slice (some ⟨q,0,none⟩) n n)
 geo:W.rangeAt p 0 gc
 a:RArr W ds 67 3 m f
 lM:M < W.heap.size
 lp:p < W.heap.size
theorem C29.below {M q n p ds m:Nat} {gc:List Value} {f:Nat → List Value} {W W':World} (h:C29 M q n p ds m gc f W) (hb:Below W.heap.size W W'):C29 M q n p ds m gc f W' :=
 ⟨(World.cell?_of_block (w:=W) (a:=⟨M,0,none⟩) (hb.block M h.lM)).trans h.c0,fun k v hk => (World.cell?_of_block (w:=W) (a:=⟨p,0 + k,none⟩) (hb.block p h.lp)).trans (h.geo k v hk),h.a.below hb,Nat.lt_of_lt_of_le h.lM hb.size,Nat.lt_of_lt_of_le h.lp hb.size⟩
theorem orps_ok {P:PlanD} {ys:Nat → Ino} {N:Nat} (hN:N ≤ 301) (hi:∀ k,k < N → (ys k).Ok):∀ k,k ≤ 301 → ∀ t,t < N → ((P.orps ys k).ino t).Ok
 | 0,_ => hi
 | k + 1,hk => by
  have ih:=orps_ok hN hi (P:=P) k (by omega)
  show ∀ t,t < N → ((P.orpG k (P.orps ys k)).ino t).Ok
  unfold PlanD.orpG
  split
  ·split
   ·exact ih
   ·intro t ht
    dsimp only
    unfold updN;split
    ·rename_i e
     have h:=ih t ht
     rw [e] at h
     exact ⟨h.kind,h.links,h.gen,h.size,h.p,by dsimp only;omega⟩
    ·exact ih t ht
  ·exact ih
abbrev dcF (f e n:Nat → Int) (k:Nat):List Value:=[.int .i64 (f k),.int .i64 (e k),.int .i64 (n k)]
structure EdT (B M q Y N p s0 ds:Nat) (x:Im) (m:MS) (ys:Nat → Ino) (o:Nat) (d:PlAd) (P:PlanD) (f e n:Nat → Int) (w W:World):Prop where
 s:EdS B M q Y N p s0 x m ys o d P w W
 a:RArr W ds 67 3 x.g (dcF f e n)
 nd:¬ MY M q Y ds
 ndp:ds ≠ p
 nds:ds ≠ s0
 ld:w.heap.size ≤ ds
section
variable {B M q Y N p s0 ds o:Nat} {x:Im} {m m':MS} {ys ys':Nat → Ino} {d:PlAd} {P:PlanD} {f e n:Nat → Int} {w W W':World}
theorem EdT.to (h:EdT B M q Y N p s0 ds x m ys o d P f e n w W) (hs:HgS M q Y N x m' ys' W W'):EdT B M q Y N p s0 ds x m' ys' o d P f e n w W' :=
 ⟨h.s.to hs,h.a.gwS hs.gr h.nd,h.nd,h.ndp,h.nds,h.ld⟩
theorem EdT.self (h:EdT B M q Y N p s0 ds x m ys o d P f e n w W):HgS M q Y N x m ys W W:=h.s.self
theorem EdT.below (h:EdT B M q Y N p s0 ds x m ys o d P f e n w W) (hb:Below W.heap.size W W'):EdT B M q Y N p s0 ds x m ys o d P f e n w W':=h.to (h.self.below hb)
theorem EdT.inoRange (h:EdT B M q Y N p s0 ds x m ys o d P f e n w W) {t:Nat} (ht:t < N):W.rangeAt Y (t * 16) (ys t).arr.toList:=by
 have:=h.s.h.y.seg.range t ht
 rwa [Nat.zero_add] at this
theorem EdT.dirs (h:EdT B M q Y N p s0 ds x m ys o d P f e n w W) {t:Nat} (ht:t < x.g):W.cell? ⟨ds,t * 3 + 2,none⟩ = some (.int .i64 (n t)):=by
 have:=h.a.seg t ht 2 _ rfl
 rwa [Nat.zero_add] at this
theorem EdT.putD (h:EdT B M q Y N p s0 ds x m ys o d P f e n w W) {t:Nat} (ht:t < x.g) (v:Int):EdT B M q Y N p s0 ds x m ys o d P f e (updN n t v) w (W.setCell ⟨ds,t * 3 + 2,none⟩ (.int .i64 v)):=by
 have ho:=Only.setCell W ⟨ds,t * 3 + 2,none⟩ (.int .i64 v)
 refine ⟨h.s.only ho h.nd h.ld h.ndp (h.s.su.only ho (Ne.symm h.nds)),?_,h.nd,h.ndp,h.nds,h.ld⟩
 refine (h.a.cellset (k:=t) (j:=2) ht (by omega) (fun j => rfl) (.int .i64 v)).congr fun j hj => ?_
 by_cases e':j = t
 ·subst e';simp [updN,dcF]
 ·simp [updN,dcF,e']
theorem EdT.putF (h:EdT B M q Y N p s0 ds x m ys o d P f e n w W) {t:Nat} (ht:t < x.g) (v:Int):EdT B M q Y N p s0 ds x m ys o d P (updN f t v) e n w (W.setCell ⟨ds,t * 3,none⟩ (.int .i64 v)):=by
 have ho:=Only.setCell W ⟨ds,t * 3,none⟩ (.int .i64 v)
 refine ⟨h.s.only ho h.nd h.ld h.ndp (h.s.su.only ho (Ne.symm h.nds)),?_,h.nd,h.ndp,h.nds,h.ld⟩
 refine (h.a.cellset (k:=t) (j:=0) ht (by omega) (fun j => rfl) (.int .i64 v)).congr fun j hj => ?_
 by_cases e':j = t
 ·subst e';simp [updN,dcF]
 ·simp [updN,dcF,e']
theorem EdT.putE (h:EdT B M q Y N p s0 ds x m ys o d P f e n w W) {t:Nat} (ht:t < x.g) (v:Int):EdT B M q Y N p s0 ds x m ys o d P f (updN e t v) n w (W.setCell ⟨ds,t * 3 + 1,none⟩ (.int .i64 v)):=by
 have ho:=Only.setCell W ⟨ds,t * 3 + 1,none⟩ (.int .i64 v)
 refine ⟨h.s.only ho h.nd h.ld h.ndp (h.s.su.only ho (Ne.symm h.nds)),?_,h.nd,h.ndp,h.nds,h.ld⟩
 refine (h.a.cellset (k:=t) (j:=1) ht (by omega) (fun j => rfl) (.int .i64 v)).congr fun j hj => ?_
 by_cases e':j = t
 ·subst e';simp [updN,dcF]
 ·simp [updN,dcF,e']
theorem EdT.c1 (h:EdT B M q Y N p s0 ds x m ys o d P f e n w W) {t:Nat} (ht:t < x.g):W.cell? ⟨ds,t * 3,none⟩ = some (.int .i64 (f t)) ∧ W.cell? ⟨ds,t * 3 + 1,none⟩ = some (.int .i64 (e t)):=by
 have h0:=h.a.seg t ht 0 _ rfl
 have h1:=h.a.seg t ht 1 _ rfl
 rw [Nat.zero_add] at h0 h1
 exact ⟨h0,h1⟩
theorem EdT.congr {f' e':Nat → Int} (h:EdT B M q Y N p s0 ds x m ys o d P f e n w W) (hf:∀ j,j < x.g → f j = f' j) (he:∀ j,j < x.g → e j = e' j):EdT B M q Y N p s0 ds x m ys o d P f' e' n w W :=
 ⟨h.s,h.a.congr fun j hj => by unfold dcF;rw [hf j hj,he j hj],h.nd,h.ndp,h.nds,h.ld⟩
theorem EdT.geo (h:EdT B M q Y N p s0 ds x m ys o d P f e n w W):W.rangeAt p 0 (gcells x.g x.s x.i x.j).toList:=fun k v hk => by
 match k,hk with
 | 0,hk => injection hk with hk;subst hk;exact h.s.bx.cell (i:=0) rfl
 | 1,hk => injection hk with hk;subst hk;exact h.s.bx.cell (i:=1) rfl
 | 2,hk => injection hk with hk;subst hk;exact h.s.bx.cell (i:=2) rfl
 | 3,hk => injection hk with hk;subst hk;exact h.s.bx.cell (i:=3) rfl
 | k + 4,hk => cases hk
end
theorem tab_d (x:Im) (L:Nat → Nat → Int) (ino:Nat → Ino):∀ k g,0 ≤ (PlanD.tab x L ino k).d g ∧ (PlanD.tab x L ino k).d g ≤ k
 | 0,_ => ⟨Int.le_refl _,Int.le_refl _⟩
 | k + 1,g => by
  have ih:=tab_d x L ino k
  show 0 ≤ (PlanD.tabF x ino k (PlanD.tab x L ino k)).d g ∧ (PlanD.tabF x ino k (PlanD.tab x L ino k)).d g ≤ _
  unfold PlanD.tabF
  dsimp only
  split
  ·unfold updN
   split
   ·have:=ih (k / x.i);omega
   ·have:=ih g;omega
  ·have:=ih g;omega
def frK (g:Nat → Int) (t j:Nat):Int:=if j < t then g j else 0
theorem frK_next (g:Nat → Int) (t:Nat):updN (frK g t) t (g t) = frK g (t + 1):=by
 funext j
 unfold updN frK
 by_cases e:j = t
 ·subst e;rw [if_pos rfl,if_pos (by omega)]
 ·rw [if_neg e]
  by_cases h:j < t
  ·rw [if_pos h,if_pos (by omega)]
  ·rw [if_neg h,if_neg (by omega)]
structure C28 (M q n s0:Nat) (su:Array Value) (W:World):Prop where
 c0:W.cell? ⟨M,0,none⟩ = some (.slice (some ⟨q,0,none⟩) n n)
 su:At W s0 47 su
 lM:M < W.heap.size
theorem C28.below {M q n s0:Nat} {su:Array Value} {W W':World} (h:C28 M q n s0 su W) (hb:Below W.heap.size W W'):C28 M q n s0 su W' :=
 ⟨(World.cell?_of_block (w:=W) (a:=⟨M,0,none⟩) (hb.block M h.lM)).trans h.c0,h.su.below hb h.su.lt,Nat.lt_of_lt_of_le h.lM hb.size⟩
theorem PlM.lM {M q:Nat} {x:Im} {m:MS} {W:World} (h:PlM M q x m W):M < W.heap.size:=by obtain ⟨f,hf⟩:=h.k;exact hf.lt
theorem orps_o (P:PlanD) (ys:Nat → Ino):∀ k,(P.orps ys k).o ≤ k + 1
 | 0 => Nat.zero_le _
 | k + 1 => by
  have ih:=orps_o P ys k
  show (P.orpG k (P.orps ys k)).o ≤ k + 2
  unfold PlanD.orpG
  split
  ·split
   ·exact Nat.le_refl _
   ·dsimp only;omega
  ·omega
structure C17 (M q n Y t:Nat) (y:Ino) (W:World):Prop where
 c0:W.cell? ⟨M,0,none⟩ = some (.slice (some ⟨q,0,none⟩) n n)
 rg:W.rangeAt Y (t * 16) y.arr.toList
def V17 (Y q b a t N:Nat) (y z:Nat → Int) (E:Int) (ia:Value) (f:Prop) (k:Nat) (v:Value):Prop :=
 if k = 11 then v = bval y else if k = 12 then v = .int .i64 (a:Int) else if k = 13 then v = .slice (some ⟨Y,0,none⟩) N N else if k = 14 then v = .int .i64 (t:Int)
 else if k = 15 then v = .pointer (some ⟨Y,0 + t * 16,none⟩) else if k = 16 then v = ia
 else if k = 17 ∨ k = 18 then v = .tuple #[bval z,.int .i64 E] ∧ f
 else if k = 19 then v = bval z ∧ f
 else if k = 20 then v = .int .i64 E
 else if k = 21 then v = .pointer (some ⟨q,0 + b * 256,none⟩) else v = undef
theorem V17.up {Y q b a t N:Nat} {y z:Nat → Int} {E:Int} {ia:Value} {f f':Prop} {k:Nat} {v:Value} (h:V17 Y q b a t N y z E ia f k v) (hl:f → f'):V17 Y q b a t N y z E ia f' k v:=by
 unfold V17 at h ⊢
 by_cases h1:k = 11
 ·rwa [if_pos h1] at h ⊢
 rw [if_neg h1] at h ⊢
 by_cases h2:k = 12
 ·rwa [if_pos h2] at h ⊢
 rw [if_neg h2] at h ⊢
 by_cases h3:k = 13
 ·rwa [if_pos h3] at h ⊢
 rw [if_neg h3] at h ⊢
 by_cases h4:k = 14
 ·rwa [if_pos h4] at h ⊢
 rw [if_neg h4] at h ⊢
 by_cases h5:k = 15
 ·rwa [if_pos h5] at h ⊢
 rw [if_neg h5] at h ⊢
 by_cases h6:k = 16
 ·rwa [if_pos h6] at h ⊢
 rw [if_neg h6] at h ⊢
 by_cases h7:k = 17 ∨ k = 18
 ·rw [if_pos h7] at h ⊢;exact ⟨h.1,hl h.2⟩
 rw [if_neg h7] at h ⊢
 by_cases h8:k = 19
 ·rw [if_pos h8] at h ⊢;exact ⟨h.1,hl h.2⟩
 rw [if_neg h8] at h ⊢
 exact h
def PlanD.endL (P:PlanD) (x:Im) (L:Nat → Nat → Int) (ino:Nat → Ino) (n:Nat):Nat → Nat → Int :=
 let s:=P.orps ino n
 let t:=PlanD.tab x L s.ino (n + 1)
 let L:=PlanD.itr (P.chgF x.n) P.nc (PlanD.headsL x s.o t)
 if P.sums then PlanD.sumF 1 (PlanD.sumF 0 L) else L
theorem EdS.my_lt {B M q Y N p s0 o:Nat} {x:Im} {m:MS} {ys:Nat → Ino} {d:PlAd} {P:PlanD} {w W:World} (h:EdS B M q Y N p s0 x m ys o d P w W):∀ j,MY M q Y j → j < W.heap.size:=fun j hj => by
 rcases hj with rfl | rfl | rfl
 ·obtain ⟨f,hf⟩:=h.h.p.k;exact hf.lt
 ·exact h.h.p.im.lt
 ·exact h.h.y.lt
structure EdC (B M q Y N p s0 c:Nat) (x:Im) (m:MS) (ys:Nat → Ino) (o:Nat) (d:PlAd) (P:PlanD) (t:Nat) (w W:World):Prop where
 s:EdS B M q Y N p s0 x m ys o d P w W
 a:At W c 149 #[.int .i64 (P.cb t),.int .i64 (P.ca t),.int .u8 (P.co t)]
 nc:¬ MY M q Y c
section
variable {B M q Y N p s0 c o t:Nat} {x:Im} {m m':MS} {ys ys':Nat → Ino} {d:PlAd} {P:PlanD} {w W W':World}
theorem EdC.to (h:EdC B M q Y N p s0 c x m ys o d P t w W) (hs:HgS M q Y N x m' ys' W W'):EdC B M q Y N p s0 c x m' ys' o d P t w W':=⟨h.s.to hs,h.a.gwS hs.gr h.nc,h.nc⟩
theorem EdC.below (h:EdC B M q Y N p s0 c x m ys o d P t w W) (hb:Below W.heap.size W W'):EdC B M q Y N p s0 c x m ys o d P t w W':=h.to (h.s.self.below hb)
theorem EdS.chg (h:EdS B M q Y N p s0 x m ys o d P w W) {cs:Array Value} (ha:At W' W.heap.size 149 #[.int .i64 (P.cb t),.int .i64 (P.ca t),.int .u8 (P.co t)]) (k:Only W.heap.size (W.alloc (.cells cs 149)) W'):EdC B M q Y N p s0 W.heap.size x m ys o d P t w W':=by
 have h1:=h.below (W':=W.alloc (.cells cs 149)) ((Below.refl _ _).alloc (Nat.le_refl _) _)
 have hn:¬ MY M q Y W.heap.size:=fun e => Nat.lt_irrefl _ (h.my_lt _ e)
 have e1:W.heap.size ≠ p:=by have:=h.bx.lt;omega
 have e2:s0 ≠ W.heap.size:=by have:=h.su.lt;omega
 exact ⟨h1.only k hn h.h.gr.size e1 (h1.su.only k e2),ha,hn⟩
end
theorem info_chg (a b c:Value):(Tryz.prog.info? 149).map (·.size) = some (#[a,b,c]:Array Value).size:=by kernel_rfl
theorem one_chg (a b c:Int):(#[.int .i64 a,.int .i64 b,.int .u8 c]:Array Value).all (·.oneCell') = true:=by kernel_rfl
theorem run_sliceBlkToO (g o k:Nat) (L:Int) (hL:L = (k:Int)) (h3:k ≤ 256) (W:World) :
  (Instr.sliceAt 32 (.pointer (some ⟨g,o,none⟩)) none (some (.int .i64 L)) none).run Tryz.prog W = .ok (.slice (some ⟨g,o,none⟩) k 256) W:=by
 subst hL
 have hal:Tryz.prog.arrayLen 32 = 256:=by kernel_rfl
 have hsz:∀ W,(Go.sizeOf (Tryz.prog.elem 32)).run Tryz.prog W = .ok 1 W:=fun W => by kernel_rfl
 rw [run_sliceAt_array_h W 32 _ (by kernel_rfl) .i64 (k:Int) (by omega) (by rw [hal];omega),hsz,hal]
 simp only [Result.andThen,slicedAt,Int.toNat_natCast,Nat.mul_one]
 rfl
theorem rem_at (v:Int):(-255 ≤ v.tmod 256 ∧ v.tmod 256 ≤ 255) ∧ (v.tmod 256 + 256).tmod 256 = (((v % 256).toNat:Nat):Int):=by
 by_cases h:0 ≤ v
 ·have e:v.tmod 256 = v % 256:=Int.tmod_eq_emod_of_nonneg h
  rw [e,Int.tmod_eq_emod_of_nonneg (by omega)]
  omega
 ·have e:v.tmod 256 = -((-v) % 256):=by
   rw [← Int.tmod_eq_emod_of_nonneg (by omega:0 ≤ -v),Int.neg_tmod,Int.neg_neg]
  rw [e,Int.tmod_eq_emod_of_nonneg (by omega)]
  omega
theorem headsL_byt {x:Im} {o:Nat} {t:PlanD.TS} (h:∀ b,Byt (t.L b)):∀ b,Byt (PlanD.headsL x o t b):=fun b => by
 unfold PlanD.headsL updN
 split
 ·exact descZ_byt _ _ _ _ _ _ _ _
 ·split
  ·exact supZ_byt _ _ _ _ _
  ·exact h b
theorem chg_byt {P:PlanD} (hB:P.Bd) {n:Nat} {L:Nat → Nat → Int} (h:∀ b,Byt (L b)):∀ k b,Byt (PlanD.itr (P.chgF n) k L b)
 | 0,b => h b
 | k + 1,b => by
  have ih:=chg_byt hB h (n:=n) k
  show Byt (P.chgF n k (PlanD.itr (P.chgF n) k L) b)
  unfold PlanD.chgF
  split
  ·unfold updN
   split
   ·refine byt_over (ih _) (fun i => ?_) _ _
    have h1:=ih (P.cb k).toNat (P.ca k % 256).toNat
    have h2:=hB.co k
    have:=Nat.xor_lt_two_pow (n:=8) (x:=((PlanD.itr (P.chgF n) k L) (P.cb k).toNat (P.ca k % 256).toNat).toNat) (y:=(P.co k).toNat) (by omega) (by omega)
    exact ⟨Int.natCast_nonneg _,Int.ofNat_lt.2 this⟩
   ·exact ih b
  ·exact ih b
theorem sum_byt {k:Nat} {L:Nat → Nat → Int} (h:∀ b,Byt (L b)):∀ b,Byt (PlanD.sumF k L b):=fun b => by
 unfold PlanD.sumF updN
 split
 ·exact sealZ_byt (h k)
 ·exact h b
set_option maxRecDepth 100000 in
set_option maxHeartbeats 16000000 in
theorem mkEnd_any (B M q Y N:Nat) (x:Im) (hx:x.Ok) (m:MS) (ys:Nat → Ino) (hm:∀ b,Byt (m.L b)) (hY:∀ k,k < N → (ys k).Ok) (hN0:1 ≤ N) (hN:N ≤ x.ni) (d:PlAd) (P:PlanD) (hB:P.Bd) (hS:P.Small) (hNP:N ≤ P.nf + 1)
  (w:World) (hs:HgS M q Y N x m ys w w) (hP:PlnR B d P w) (hBw:B ≤ w.heap.size) (hnB:∀ j,j < B → ¬ MY M q Y j) (hMY:∀ j,MY M q Y j → j < w.heap.size) :
  Calls Tryz.prog 30 #[.pointer (some ⟨M,0,none⟩),plVal x.g x.s x.i x.j d P,.slice (some ⟨Y,0,none⟩) N N] w fun e w' =>
   e = .returned (.slice (some ⟨q,0,none⟩) x.n x.n) ∧ (∀ b,Byt (P.endL x m.L ys (N - 1) b)) ∧ HgS M q Y N x { m with L:=P.endL x m.L ys (N - 1) } (P.orps ys (N - 1)).ino w w':=by
 have ST0:Hid (EdS B M q Y N w.heap.size (w.heap.size + 1) x m ys 0 d P w ((w.alloc (.cells (plRow x.g x.s x.i x.j d P) 27)).alloc (.cells (sucells x 0) 47))):=by
  have hb:Below w.heap.size w (w.alloc (.cells (plRow x.g x.s x.i x.j d P) 27)):=(Below.refl _ _).alloc (Nat.le_refl _) _
  have hb2:Below w.heap.size w ((w.alloc (.cells (plRow x.g x.s x.i x.j d P) 27)).alloc (.cells (sucells x 0) 47)):=hb.alloc (by simp) _
  refine ⟨hs.below hb2,(At.new w _ (plRow x.g x.s x.i x.j d P)).alloc _,?_,hP.below (hb2.mono hBw),Nat.le_refl _,by omega,fun e => Nat.lt_irrefl _ (hMY _ e),fun e => by have:=hMY _ e;omega,by omega,hnB,hBw⟩
  have:=At.new (w.alloc (.cells (plRow x.g x.s x.i x.j d P) 27)) 47 (sucells x 0)
  simpa using this
 have HX:=Lib.hid hx
 have HBD:=Lib.hid hB
 have HSM:=Lib.hid hS
 have HM:=Lib.hid hm
 have HYO:=Lib.hid hY
 clear hx hB hS hs hP hMY hnB hm hY
 go_enter Tryz.func30,Tryz.ntmps30
 go_wp2_with fail
 obtain ⟨N',rfl⟩:∃ N',N = N' + 1:=⟨N - 1,by omega⟩
 have hN9:N' + 1 ≤ 301:=by
  have:=HSM.out.nf
  omega
 go_loopw [8,9] (fun u v wr => ∃ k:Nat,k ≤ N' ∧ u = .int .i64 ((P.orps ys k).last:Int) ∧ v = .int .i64 ((k:Int) + 1) ∧ EdS B M q Y (N' + 1) w.heap.size (w.heap.size + 1) x m (P.orps ys k).ino (P.orps ys k).o d P w wr) (fun _ v _ => N' + 2 - (intOf v).toNat)
 case atStart => exact ⟨0,Nat.zero_le _,rfl,rfl,ST0.out⟩
 case round =>
  clear ST0
  obtain ⟨k,hk,rfl,rfl,st⟩:=hrel
  have hlast:=orps_last P ys k
  have HOS:Hid (P.orps ys (k + 1) = P.orpG k (P.orps ys k)):=rfl
  obtain ⟨OS,hOS⟩:∃ OS,OS = P.orps ys k:=⟨_,rfl⟩
  rw [← hOS] at hlast HOS st ⊢
  have ST:=Lib.hid st
  clear st
  by_cases hlt:k < N'
  ·have hlt':(k:Int) + 1 < (N':Int) + 1:=by omega
   have hkf:k < P.nf:=by omega
   have hkf':(k:Int) < (P.nf:Int):=by omega
   have hnf9:=HSM.out.nf
   have c4:wr.cell? ⟨w.heap.size,4,none⟩ = some (.slice d.fa P.nf d.fc):=ST.out.bx.cell (i:=4) rfl
   obtain ⟨fb,fo,hfa,co⟩:=ST.out.r.f.cell (j:=4) hkf rfl
   rw [hfa] at c4
   obtain ⟨bo,hbo⟩:∃ bo,bo = (P.f k).orp:=⟨_,rfl⟩
   rw [← hbo] at co
   obtain ⟨la,hla⟩:∃ la,la = OS.last:=⟨_,rfl⟩
   rw [← hla] at hlast ⊢
   have su4:wr.cell? ⟨w.heap.size + 1,4,none⟩ = some (.int .u32 (OS.o:Int)):=ST.out.su.cell (i:=4) rfl
   have sf4:wr.frozen? ⟨w.heap.size + 1,4,none⟩ = false:=soft_of_heap ST.out.su 4
   have hlaN:la < N' + 1:=by omega
   have hlaN':(la:Int) < (N':Int) + 1:=by omega
   have nx:=ST.out.h.next hlaN
   have nf:=ST.out.h.y.soft (la * 16 + 15)
   have HLA:=Lib.hid hla
   clear hfa hOS hla
   cases bo with
   | false =>
    have HO1:Hid (P.orps ys (k + 1) = OS):=by show _ = _;rw [HOS.out,PlanD.orpG,← hbo];rfl
    clear hbo
    go_wp2_with fail
    go_roundw
    case rel => exact ⟨k + 1,by omega,by rw [HO1.out,HLA.out],by go_num,by rw [HO1.out];exact ST.out⟩
    case measure => simp [intOf];omega
   | true =>
    by_cases hla0:la = 0
    ·have HO1:Hid (P.orps ys (k + 1) = ⟨k + 2,k + 1,OS.ino⟩):=by show _ = _;rw [HOS.out,PlanD.orpG,← hbo,if_pos rfl,if_pos (by rw [← HLA.out,hla0])]
     subst hla0
     have ST1:=Lib.hid (ST.out.setO (k + 2))
     clear hbo
     go_wp2_with fail
     go_roundw
     case rel => exact ⟨k + 1,by omega,by rw [HO1.out];go_num,by go_num,by rw [HO1.out];exact ST1.out⟩
     case measure => simp [intOf];omega
    ·have HO1:Hid (P.orps ys (k + 1) = ⟨OS.o,k + 1,updN OS.ino la { OS.ino la with next:=((k + 2:Nat):Int) }⟩):=by show _ = _;rw [HOS.out,PlanD.orpG,← hbo,if_pos rfl,if_neg (by rw [← HLA.out];exact hla0),HLA.out]
     have ST1:=Lib.hid (ST.out.to (ST.out.self.putNext hlaN ((k + 2:Nat):Int)))
     have q1:((la:Int) == 0) = false:=by simp;omega
     clear hbo
     go_wp2_with fail
     go_roundw
     case rel => exact ⟨k + 1,by omega,by rw [HO1.out];go_num,by go_num,by rw [HO1.out];exact ST1.out⟩
     case measure => simp [intOf];omega
  ·obtain rfl:k = N':=by omega
   have c0:wr.cell? ⟨w.heap.size,0,none⟩ = some (.int .i64 (x.g:Int)):=ST.out.bx.cell (i:=0) rfl
   obtain ⟨h1,h2,h3,h4,h5,h6,h7,h8,h9,h10,h11⟩:=mayN HX.out.may
   have hmk:=fun W => run_mkrow (P:=Tryz.prog) 51 67 (dval 0 0 0) 3 24 Tryz.underlying51 info_desc3 .i64 .i64 x.g (by omega) (by omega) W
   clear h1 h2 h3 h4 h5 h6 h7 h8 h9 h10 h11 HOS hlast hlt hk
   have HA0:=Lib.hid (RArr.made (m:=3) wr (dcells 0 0 0) rfl (by omega) x.g 67)
   have ST1:Hid (EdS B M q Y (k + 1) w.heap.size (w.heap.size + 1) x m OS.ino OS.o d P w (wr.alloc (.cells (madeCells (dval 0 0 0).cells (x.g * 3)) 67))):=ST.out.below ((Below.refl _ _).alloc (Nat.le_refl _) _)
   have hql:w.heap.size + 1 < wr.heap.size ∧ ∀ j,MY M q Y j → j < wr.heap.size:=⟨ST.out.su.lt,fun j hj => by
    rcases hj with rfl | rfl | rfl
    ·obtain ⟨f,hf⟩:=ST.out.h.p.k;exact hf.lt
    ·exact ST.out.h.p.im.lt
    ·exact ST.out.h.y.lt⟩
   have HOK:Hid (∀ t,t < k + 1 → (OS.ino t).Ok):=by rw [hOS];exact orps_ok hN9 HYO.out k (by omega)
   have HOO:Hid (0 ≤ ((OS.o:Nat):Int) ∧ ((OS.o:Nat):Int) < 4294967296):=by
    have:=orps_o P ys k
    rw [← hOS] at this
    exact ⟨by omega,by omega⟩
   have HOSE:=Lib.hid hOS
   clear hOS
   clear ST
   go_wp2_with fail
   obtain ⟨ds,hds⟩:∃ ds,wr.heap.size = ds:=⟨_,rfl⟩
   rw [hds] at HA0 hql ⊢
   have ST2:Hid (EdT B M q Y (k + 1) w.heap.size (w.heap.size + 1) ds x m OS.ino OS.o d P (fun _ => 0) (fun _ => 0) (fun _ => 0) w (wr.alloc (.cells (madeCells (dval 0 0 0).cells (x.g * 3)) 67))) :=
    ⟨ST1.out,HA0.out.congr fun i _ => rfl,fun h => Nat.lt_irrefl _ (hql.2 _ h),by omega,by omega,by omega⟩
   clear HA0 hmk hds ST1 hql c0
   go_loopw [11,12,13,14,15,16,17] (fun u _ _ _ _ _ _ wr => ∃ t:Nat,t ≤ k + 1 ∧ u = .int .i64 (t:Int) ∧ EdT B M q Y (k + 1) w.heap.size (w.heap.size + 1) ds x { m with L:=(PlanD.tab x m.L OS.ino t).L } OS.ino OS.o d P (fun _ => 0) (fun _ => 0) (PlanD.tab x m.L OS.ino t).d w wr) (fun u _ _ _ _ _ _ _ => k + 1 - (intOf u).toNat)
   case atStart => exact ⟨0,Nat.zero_le _,rfl,ST2.out⟩
   case round =>
    clear ST2
    obtain ⟨t,ht,rfl,st⟩:=hrel
    have ST:=Lib.hid st
    have HTF:Hid (PlanD.tab x m.L OS.ino (t + 1) = PlanD.tabF x OS.ino t (PlanD.tab x m.L OS.ino t)):=rfl
    have HBY:Hid (∀ b,Byt ((PlanD.tab x m.L OS.ino t).L b)):=tab_byt x HM.out HOK.out t ht
    have HBY1:t + 1 ≤ k + 1 → Hid (∀ b,Byt ((PlanD.tab x m.L OS.ino (t + 1)).L b)):=fun h => tab_byt x HM.out HOK.out (t + 1) h
    have HDB:Hid (∀ g,0 ≤ (PlanD.tab x m.L OS.ino t).d g ∧ (PlanD.tab x m.L OS.ino t).d g ≤ t):=tab_d x m.L OS.ino t
    obtain ⟨T,hT⟩:∃ T,T = PlanD.tab x m.L OS.ino t:=⟨_,rfl⟩
    have HTE:=Lib.hid hT
    rw [← hT] at ST HTF HBY HDB
    clear st hT
    by_cases hlt:t < k + 1
    ·have hlt':(t:Int) < (k:Int) + 1:=by omega
     have hrg:=ST.out.geo
     obtain ⟨γ,hγ⟩:∃ γ,γ = t / x.i:=⟨_,rfl⟩
     obtain ⟨r,hr⟩:∃ r,r = t % x.i:=⟨_,rfl⟩
     obtain ⟨h1,h2,h3,h4,h5,h6,h7,h8,h9,h10,h11⟩:=mayN HX.out.may
     have hti:t = γ * x.i + r:=by rw [hγ,hr,Nat.mul_comm];exact (Nat.div_add_mod t x.i).symm
     have hri:r < x.i:=by rw [hr];exact Nat.mod_lt _ (by omega)
     have hγg:γ < x.g:=by
      rw [hγ]
      refine (Nat.div_lt_iff_lt_mul (by omega)).2 ?_
      have:t < x.ni:=by omega
      exact this
     have hib:x.ib (t + 1) = 2 + x.j + γ * x.s + (2 + r / 4):=by unfold Im.ib Im.st;rw [Nat.add_sub_cancel,← hγ,← hr];omega
     have hia:x.ia (t + 1) = 64 * (r % 4):=by unfold Im.ia;rw [Nat.add_sub_cancel,← hr];omega
     have HHO:Hid (∀ W,Calls Tryz.prog 66 #[gval x.g x.s x.i x.j,.int .i64 ((t:Int) + 1)] W fun e w' => e = .returned (.tuple #[.int .i64 (γ:Int),.int .i64 (r:Int),.bool true]) ∧ Below W.heap.size W w'):=fun W => by
      have:=rHome5_any x.g x.s x.i x.j γ r HX.out.may hγg hri W
      rwa [show ((1 + γ * x.i + r:Nat):Int) = (t:Int) + 1 by rw [hti];push_cast;omega] at this
     have HIN:Hid (∀ W,Calls Tryz.prog 67 #[gval x.g x.s x.i x.j,.int .i64 ((t:Int) + 1)] W fun e w' => e = .returned (.tuple #[.int .i64 ((x.ib (t + 1):Nat):Int),.int .i64 ((x.ia (t + 1):Nat):Int),.bool true]) ∧ Below W.heap.size W w'):=fun W => by
      have:=rInode5_any x.g x.s x.i x.j γ r HX.out.may hγg hri W
      rwa [show ((1 + γ * x.i + r:Nat):Int) = (t:Int) + 1 by rw [hti];push_cast;omega,← hib,← hia] at this
     have hbn:x.ib (t + 1) < x.n:=by
      have:=HX.out.st hγg (d:=2 + r / 4) (by omega)
      unfold Im.st at this
      omega
     have hia9:x.ia (t + 1) ≤ 192:=by omega
     have hti9:t ≤ 301:=by omega
     clear h1 h2 h3 h4 h5 h6 h7 h8 h9 h10 h11 hib hia
     obtain ⟨b,hb⟩:∃ b,b = x.ib (t + 1):=⟨_,rfl⟩
     obtain ⟨a,ha⟩:∃ a,a = x.ia (t + 1):=⟨_,rfl⟩
     rw [← hb] at HIN hbn
     rw [← ha] at HIN hia9
     have HBA:=Lib.hid (And.intro hb ha)
     have HGR:=Lib.hid (And.intro hγ hr)
     clear hb ha hγ hr hti
     go_wp2_with (first | (refine wp_loadMid rfl 23 (.tmp 66) rfl w.heap.size 0 (gcells x.g x.s x.i x.j).toList _ rfl hrg Tryz.underlying23 rfl (by kernel_rfl) ?_))
     refine (HHO.out _).mono ?_
     rintro e w1 ⟨rfl,hb1⟩
     have ST1:=Lib.hid (ST.out.below hb1)
     clear ST hb1 hrg HHO
     have hrg:=ST1.out.geo
     go_wp2_with (first | (refine wp_loadMid rfl 23 (.tmp 75) rfl w.heap.size 0 (gcells x.g x.s x.i x.j).toList _ rfl hrg Tryz.underlying23 rfl (by kernel_rfl) ?_))
     refine (HIN.out _).mono ?_
     rintro e w2 ⟨rfl,hb2⟩
     have ST2:=Lib.hid (ST1.out.below hb2)
     clear ST1 hb2 hrg HIN
     go_wp2_with fail
     obtain ⟨z,hz⟩:∃ z,z = putZ (T.L b) (a:Int) (OS.ino t):=⟨_,rfl⟩
     obtain ⟨E,hE⟩:∃ E,E = putErr (a:Int) (OS.ino t):=⟨_,rfl⟩
     have HPT:Hid (∀ W,Calls Tryz.prog 63 #[bval (T.L b),.int .i64 (a:Int),(OS.ino t).val] W fun e w' => e = .returned (.tuple #[bval z,.int .i64 E]) ∧ Below W.heap.size W w'):=fun W => by
      rw [hz,hE];exact rput_any (T.L b) (HBY.out b) (a:Int) (OS.ino t) (HOK.out t hlt) W
     have HZ:=Lib.hid hz
     clear hz hE
     have hba:(b:Int) < (x.n:Int):=by omega
     apply Vp.wp_region_pre 11 (fun l kk v W => V17 Y q b a t (k + 1) (T.L b) z E (OS.ino t).val (l 11 = true) kk v) (fun l W => SAB 22 11 (EdT B M q Y (k + 1) w.heap.size (w.heap.size + 1) ds x { m with L:=T.L } OS.ino OS.o d P (fun _ => 0) (fun _ => 0) T.d w) (EdT B M q Y (k + 1) w.heap.size (w.heap.size + 1) ds x { m with L:=updN T.L b z } OS.ino OS.o d P (fun _ => 0) (fun _ => 0) T.d w) l W) (C17 M q x.n Y t (OS.ino t))
     case hm => kernel_rfl
     case hd => kernel_rfl
     case hpre => kernel_rfl
     case hB => kernel_rfl
     case hVl => exact fun l l' he i v W h => h.up fun e => by rw [← he 11 (by decide) (by decide)];exact e
     case hS => exact fun l l' W he h => h.lists (he 22 (by decide) (by decide)) (he 11 (by decide) (by decide))
     case hSC => exact fun l W h => SAB.all (C:=C17 M q x.n Y t (OS.ino t)) h (fun h => ⟨h.s.h.p.c0,h.inoRange hlt⟩) (fun h => ⟨h.s.h.p.c0,h.inoRange hlt⟩)
     case hVb => exact fun l i v W W' h hb => h
     case hSb => exact fun l W W' h hb _ => h.mono (fun h => h.below hb) (fun h => h.below hb)
     case h0 => exact ⟨fun _ => ST2.out.below ⟨rfl,rfl,rfl,Nat.le_refl _,fun _ _ => rfl⟩,fun e => by cases e⟩
     case hwalk =>
      simp only [List.take_succ_cons,List.take_zero]
      intro R hR hne
      have hc0:∀ y:InW (fun W => C17 M q x.n Y t (OS.ino t) W ∧ R W),y.W.cell? ⟨M,0,none⟩ = some (.slice (some ⟨q,0,none⟩) x.n x.n):=fun y => y.h.1.c0
      repeat (first | go_big_quiet_skip | (go_big_quiet_want;go_big_quiet_op;go_big_quiet_on))
      exact wpQuiet_nil rfl
     case hst =>
      simp only [List.drop_succ_cons,List.drop_zero]
      refine ⟨?_,?_,?_,?_,?_,?_,?_,?_,?_,?_,?_,?_,trivial⟩
      ·intro l ac W hl hu h
       have e1:ac.tmps.getD 94 undef = .pointer (some ⟨q,b * 256,none⟩):=((h.vals 10 94 (op_up hu 10 (by kernel_rfl)) rfl).pre (by decide) rfl).trans (by rfl)
       have hs:EdT B M q Y (k + 1) w.heap.size (w.heap.size + 1) ds x { m with L:=T.L } OS.ino OS.o d P (fun _ => 0) (fun _ => 0) T.d w W:=by
        cases e:l 22 with
        | false => exact h.st.no e
        | true => have:=(h.st.ye e).2;rw [hl] at this;cases this
       have hr:=hs.s.h.p.im.seg.range b hbn
       rw [Nat.zero_add] at hr
       exact Vm.stepQ h (by kernel_rfl) rfl rfl rfl hl _ (Vl.r_ldmid 32 (.tmp 94) rfl q (b * 256) (bkF T.L b) _ e1 hr Tryz.underlying32 rfl (by rw [bkF_len];exact info_block)) (fun _ _ hv => hv.up fun _ hv => hv.up fun e => rfl) (Vp.W.mk (by decide) rfl) (fun s => s.next (by decide))
      ·intro l ac W hl hu h
       have e3:ac.tmps.getD 16 undef = .int .i64 (a:Int):=h.old 16 (by kernel_rfl)
       exact Vm.stepQ h (by kernel_rfl) rfl rfl rfl hl _ (Vl.r_move (.tmp 16) rfl e3) (fun _ _ hv => hv.up fun _ hv => hv.up fun e => by show ((11 == 12) || l 11) = true;rw [e];rfl) (Vp.W.mk (by decide) rfl) (fun s => s.next (by decide))
      ·intro l ac W hl hu h
       have e3:ac.tmps.getD 2 undef = .slice (some ⟨Y,0,none⟩) (k + 1) (k + 1):=h.old 2 (by kernel_rfl)
       exact Vm.stepQ h (by kernel_rfl) rfl rfl rfl hl _ (Vl.r_move (.tmp 2) rfl e3) (fun _ _ hv => hv.up fun _ hv => hv.up fun e => by show ((11 == 13) || l 11) = true;rw [e];rfl) (Vp.W.mk (by decide) rfl) (fun s => s.next (by decide))
      ·intro l ac W hl hu h
       have e3:ac.tmps.getD 11 undef = .int .i64 (t:Int):=h.old 11 (by kernel_rfl)
       exact Vm.stepQ h (by kernel_rfl) rfl rfl rfl hl _ (Vl.r_move (.tmp 11) rfl e3) (fun _ _ hv => hv.up fun _ hv => hv.up fun e => by show ((11 == 14) || l 11) = true;rw [e];rfl) (Vp.W.mk (by decide) rfl) (fun s => s.next (by decide))
      ·intro l ac W hl hu h
       have e1:ac.tmps.getD 97 undef = .slice (some ⟨Y,0,none⟩) (k + 1) (k + 1):=(h.vals 13 97 (op_up hu 13 (by kernel_rfl)) rfl).post (by decide)
       have e2:ac.tmps.getD 98 undef = .int .i64 (t:Int):=(h.vals 14 98 (op_up hu 14 (by kernel_rfl)) rfl).post (by decide)
       exact Vm.stepQ h (by kernel_rfl) rfl rfl rfl hl _ (Vl.r_ixa 86 63 (.tmp 97) (.tmp 98) rfl Tryz.underlying86 16 (by kernel_rfl) Y 0 (k + 1) (k + 1) t e1 e2 hlt) (fun _ _ hv => hv.up fun _ hv => hv.up fun e => by show ((11 == 15) || l 11) = true;rw [e];rfl) (Vp.W.mk (by decide) rfl) (fun s => s.next (by decide))
      ·intro l ac W hl hu h
       have e1:ac.tmps.getD 99 undef = .pointer (some ⟨Y,0 + t * 16,none⟩):=(h.vals 15 99 (op_up hu 15 (by kernel_rfl)) rfl).post (by decide)
       rw [Nat.zero_add] at e1
       have hr:W.rangeAt Y (t * 16) (OS.ino t).arr.toList:=SAB.all (C:=fun W => W.rangeAt Y (t * 16) (OS.ino t).arr.toList) h.st (fun h => h.inoRange hlt) (fun h => h.inoRange hlt)
       exact Vm.stepQ h (by kernel_rfl) rfl rfl rfl hl _ (Vl.r_ldmid 63 (.tmp 99) rfl Y (t * 16) (OS.ino t).arr.toList _ e1 hr Tryz.underlying63 rfl (by kernel_rfl)) (fun _ _ hv => hv.up fun _ hv => hv.up fun e => by show ((11 == 16) || l 11) = true;rw [e];rfl) (Vp.W.mk (by decide) rfl) (fun s => s.next (by decide))
      ·intro l ac W hl hu h
       have u11:=op_up hu 11 (by kernel_rfl)
       have e1:ac.tmps.getD 95 undef = bval (T.L b):=(h.vals 11 95 u11 rfl).post (by decide)
       have e2:ac.tmps.getD 96 undef = .int .i64 (a:Int):=(h.vals 12 96 (op_up hu 12 (by kernel_rfl)) rfl).post (by decide)
       have e3:ac.tmps.getD 100 undef = (OS.ino t).val:=(h.vals 16 100 (op_up hu 16 (by kernel_rfl)) rfl).post (by decide)
       refine Vm.step h (by kernel_rfl) rfl rfl rfl hl (Vl.op_call 63 #[bval (T.L b),.int .i64 (a:Int),(OS.ino t).val] (r_call3p 63 (.tmp 95) (.tmp 96) (.tmp 100) _ _ _ _ rfl e1 e2 e3 (by kernel_rfl)) ?_)
       refine (HPT.out W).mono ?_
       rintro e W' ⟨rfl,hb⟩
       have u11':l 11 = true:=u11
       exact ⟨_,rfl,_,rfl,fun i d _ _ hv => hv.up fun _ hv => hv.up fun e => by show ((11 == 17) || l 11) = true;rw [e];rfl,Vp.W.mk (by decide) ⟨rfl,by show ((11 == 17) || l 11) = true;rw [u11'];rfl⟩,(h.st.mono (fun h => h.below hb) (fun h => h.below hb)).next (by decide)⟩
      ·intro l ac W hl hu h
       obtain ⟨e1,u11⟩:ac.tmps.getD 101 undef = .tuple #[bval z,.int .i64 E] ∧ l 11 = true:=(h.vals 17 101 (op_up hu 17 (by kernel_rfl)) rfl).post (by decide)
       exact Vm.stepQ h (by kernel_rfl) rfl rfl rfl hl _ (Vl.r_move (.tmp 101) rfl e1) (fun _ _ hv => hv.up fun _ hv => hv.up fun e => by show ((11 == 18) || l 11) = true;rw [e];rfl) (Vp.W.mk (by decide) ⟨rfl,by show ((11 == 18) || l 11) = true;rw [u11];rfl⟩) (fun s => s.next (by decide))
      ·intro l ac W hl hu h
       obtain ⟨e1,u11⟩:ac.tmps.getD 83 undef = .tuple #[bval z,.int .i64 E] ∧ l 11 = true:=(h.vals 18 83 (op_up hu 18 (by kernel_rfl)) rfl).post (by decide)
       exact Vm.stepQ h (by kernel_rfl) rfl rfl rfl hl _ (Vl.r_extract (.tmp 83) 0 _ rfl e1 rfl) (fun _ _ hv => hv.up fun _ hv => hv.up fun e => by show ((11 == 19) || l 11) = true;rw [e];rfl) (Vp.W.mk (by decide) ⟨rfl,by show ((11 == 19) || l 11) = true;rw [u11];rfl⟩) (fun s => s.next (by decide))
      ·intro l ac W hl hu h
       obtain ⟨e1,u11⟩:ac.tmps.getD 83 undef = .tuple #[bval z,.int .i64 E] ∧ l 11 = true:=(h.vals 18 83 (op_up hu 18 (by kernel_rfl)) rfl).post (by decide)
       exact Vm.stepQ h (by kernel_rfl) rfl rfl rfl hl _ (Vl.r_extract (.tmp 83) 1 _ rfl e1 rfl) (fun _ _ hv => hv.up fun _ hv => hv.up fun e => by show ((11 == 20) || l 11) = true;rw [e];rfl) (Vp.W.mk (by decide) rfl) (fun s => s.next (by decide))
      ·intro l ac W hl hu h
       have e1:ac.tmps.getD 87 undef = .slice (some ⟨q,0,none⟩) x.n x.n:=(h.vals 3 87 (op_up hu 3 (by kernel_rfl)) rfl).pre (by decide) rfl
       have e2:ac.tmps.getD 88 undef = .int .i64 (b:Int):=(h.vals 4 88 (op_up hu 4 (by kernel_rfl)) rfl).pre (by decide) rfl
       exact Vm.stepQ h (by kernel_rfl) rfl rfl rfl hl _ (Vl.r_ixa 29 32 (.tmp 87) (.tmp 88) rfl Tryz.underlying29 256 (by kernel_rfl) q 0 x.n x.n b e1 e2 hbn) (fun _ _ hv => hv.up fun _ hv => hv.up fun e => by show ((11 == 21) || l 11) = true;rw [e];rfl) (Vp.W.mk (by decide) rfl) (fun s => s.next (by decide))
      ·intro l ac W hl hu h
       have e1:ac.tmps.getD 104 undef = .pointer (some ⟨q,0 + b * 256,none⟩):=(h.vals 21 104 (op_up hu 21 (by kernel_rfl)) rfl).post (by decide)
       rw [Nat.zero_add] at e1
       obtain ⟨e2,u11⟩:ac.tmps.getD 102 undef = bval z ∧ l 11 = true:=(h.vals 19 102 (op_up hu 19 (by kernel_rfl)) rfl).post (by decide)
       have hs:=h.st.no hl
       have hth:W.there q (b * 256) (Ks .u8 256 z).toArray.size:=by rw [Ks_size];exact hs.s.h.p.im.there hbn
       refine Vm.step h (by kernel_rfl) rfl rfl rfl hl (Vl.op_stmid 32 (.tmp 104) (.tmp 102) rfl q (b * 256) (Ks .u8 256 z).toArray e1 e2 hth (by rw [Ks_size];exact info_block) (Ks_one _ _ _) ?_)
       exact ⟨_,rfl,fun i d _ _ hv => hv.up fun _ hv => hv.up fun e => by show ((11 == 22) || l 11) = true;rw [e];rfl,Vp.W.mk (by decide) rfl,⟨fun e => (by have e:true = false:=e;cases e),fun _ => ⟨hs.to (hs.self.turn (hs.s.h.p.put hbn z).1 (.of_only (hs.s.h.p.put hbn z).2 (.inr rfl))),by show ((11 == 22) || l 11) = true;rw [u11];rfl⟩⟩⟩
     intro a' w3 h hall
     have hall2:=hall [95,96,97,98,99,100,101,83,102,103,104] (by kernel_rfl)
     clear hall
     have e95:a'.tmps.getD 95 undef = bval (T.L b):=(h.vals 11 95 rfl rfl).post (by decide)
     have e96:a'.tmps.getD 96 undef = .int .i64 (a:Int):=(h.vals 12 96 rfl rfl).post (by decide)
     have e97:a'.tmps.getD 97 undef = .slice (some ⟨Y,0,none⟩) (k + 1) (k + 1):=(h.vals 13 97 rfl rfl).post (by decide)
     have e98:a'.tmps.getD 98 undef = .int .i64 (t:Int):=(h.vals 14 98 rfl rfl).post (by decide)
     have e99:a'.tmps.getD 99 undef = .pointer (some ⟨Y,0 + t * 16,none⟩):=(h.vals 15 99 rfl rfl).post (by decide)
     have e100:a'.tmps.getD 100 undef = (OS.ino t).val:=(h.vals 16 100 rfl rfl).post (by decide)
     have e101:a'.tmps.getD 101 undef = .tuple #[bval z,.int .i64 E]:=((h.vals 17 101 rfl rfl).post (by decide):_ ∧ _).1
     have e83:a'.tmps.getD 83 undef = .tuple #[bval z,.int .i64 E]:=((h.vals 18 83 rfl rfl).post (by decide):_ ∧ _).1
     have e102:a'.tmps.getD 102 undef = bval z:=((h.vals 19 102 rfl rfl).post (by decide):_ ∧ _).1
     have e103:a'.tmps.getD 103 undef = .int .i64 E:=(h.vals 20 103 rfl rfl).post (by decide)
     have e104:a'.tmps.getD 104 undef = .pointer (some ⟨q,0 + b * 256,none⟩):=(h.vals 21 104 rfl rfl).post (by decide)
     have ST3:Hid (EdT B M q Y (k + 1) w.heap.size (w.heap.size + 1) ds x { m with L:=updN T.L b z } OS.ino OS.o d P (fun _ => 0) (fun _ => 0) T.d w w3):=(h.st.ye rfl).1
     rw [List.foldl_cons,List.foldl_cons,List.foldl_cons,List.foldl_cons,List.foldl_cons,List.foldl_cons,List.foldl_cons,List.foldl_cons,List.foldl_cons,List.foldl_cons,List.foldl_cons,List.foldl_nil,e95,e96,e97,e98,e99,e100,e101,e83,e102,e103,e104] at hall2
     simp only [Act.put,List.setIfInBounds_toArray,List.set_cons_succ,List.set_cons_zero] at hall2
     subst hall2
     clear h ST2 HPT e95 e96 e97 e98 e99 e100 e101 e83 e102 e103 e104
     have ck:=ST3.out.s.h.y.seg t hlt 0 _ rfl
     rw [Nat.zero_add,Nat.add_zero] at ck
     have HZB:Hid (∀ c,Byt (updN T.L b z c)):=fun c => by
      unfold updN;split
      ·rw [HZ.out];exact putZ_byt (HBY.out b) (HOK.out t hlt) _
      ·exact HBY.out c
     have hr2048:r < 2048:=by have:=(mayN HX.out.may).2.2.2.2.2;omega
     have HT1:Hid (PlanD.tab x m.L OS.ino (t + 1) = ⟨if (OS.ino t).kind ≠ 0 then updN (updN T.L b z) (x.st γ + 1) (turnZ (updN T.L b z (x.st γ + 1)) r) else updN T.L b z,if (OS.ino t).kind = 2 then updN T.d γ (T.d γ + 1) else T.d⟩):=by
      show _ = _
      rw [HTF.out,PlanD.tabF,← HBA.out.1,← HBA.out.2,← HGR.out.1,← HGR.out.2,← HZ.out]
     obtain ⟨kd,hkd⟩:∃ kd,kd = (OS.ino t).kind:=⟨_,rfl⟩
     rw [← hkd] at HT1 ck
     have hdb:=HDB.out γ
     obtain ⟨dv,hdv⟩:∃ dv,dv = T.d γ:=⟨_,rfl⟩
     rw [← hdv] at HT1 hdb
     have HDV:=Lib.hid hdv
     have HKD:=Lib.hid hkd
     clear hkd hdv HTF HZ
     by_cases hk0:kd = 0
     ·subst hk0
      have HT2:Hid (PlanD.tab x m.L OS.ino (t + 1) = ⟨updN T.L b z,T.d⟩):=by show _ = _;rw [HT1.out,if_neg (by decide),if_neg (by decide)]
      go_wp2_with fail
      go_roundw
      case rel => first | exact ⟨t + 1,by omega,by go_num,by rw [HT2.out];exact ST3.out⟩ | ((repeat apply Exists.intro);refine ⟨?_,rfl⟩;exact ⟨t + 1,by omega,by go_num,by rw [HT2.out];exact ST3.out⟩)
      case measure => simp [intOf];omega
     have q1:(kd != 0) = true:=by simp [hk0]
     go_wp2_with fail
     refine (mkSet_any M q x HX.out { m with L:=updN T.L b z } HZB.out γ 1 r hγg (by decide) hr2048 _ ST3.out.s.h.p).mono ?_
     rintro e w4 ⟨rfl,hs4⟩
     have ST4:=Lib.hid (ST3.out.to (ST3.out.self.turn hs4.m (.of_grown hs4.gr (.inr rfl))))
     clear ST3 hs4 ck
     have ck:w4.cell? ⟨Y,t * 16,none⟩ = some (.int .u8 kd):=by
      have:=ST4.out.s.h.y.seg t hlt 0 _ rfl
      rw [Nat.zero_add,Nat.add_zero] at this
      rw [HKD.out];exact this
     have cd:w4.cell? ⟨ds,γ * 3 + 2,none⟩ = some (.int .i64 dv):=by rw [HDV.out];exact ST4.out.dirs hγg
     have fd:=ST4.out.a.soft (γ * 3 + 2)
     have hγg':(γ:Int) < (x.g:Int):=by omega
     by_cases hk2:kd = 2
     ·subst hk2
      have HT2:Hid (PlanD.tab x m.L OS.ino (t + 1) = ⟨updN (updN T.L b z) (x.st γ + 1) (turnZ (updN T.L b z (x.st γ + 1)) r),updN T.d γ (dv + 1)⟩):=by show _ = _;rw [HT1.out,if_pos (by decide),if_pos rfl]
      have ST5:=Lib.hid (ST4.out.putD hγg (dv + 1))
      go_wp2_with fail
      go_roundw
      case rel => first | exact ⟨t + 1,by omega,by go_num,by rw [HT2.out];exact ST5.out⟩ | ((repeat apply Exists.intro);refine ⟨?_,rfl⟩;exact ⟨t + 1,by omega,by go_num,by rw [HT2.out];exact ST5.out⟩)
      case measure => simp [intOf];omega
     have q2:(kd == 2) = false:=by simp [hk2]
     have HT2:Hid (PlanD.tab x m.L OS.ino (t + 1) = ⟨updN (updN T.L b z) (x.st γ + 1) (turnZ (updN T.L b z (x.st γ + 1)) r),T.d⟩):=by show _ = _;rw [HT1.out,if_pos hk0,if_neg hk2]
     go_wp2_with fail
     go_roundw
     case rel => first | exact ⟨t + 1,by omega,by go_num,by rw [HT2.out];exact ST4.out⟩ | ((repeat apply Exists.intro);refine ⟨?_,rfl⟩;exact ⟨t + 1,by omega,by go_num,by rw [HT2.out];exact ST4.out⟩)
     case measure => simp [intOf];omega
    ·obtain rfl:t = k + 1:=by omega
     have c0:wr.cell? ⟨w.heap.size,0,none⟩ = some (.int .i64 (x.g:Int)):=ST.out.s.bx.cell (i:=0) rfl
     have HTT:Hid (T = PlanD.tab x m.L OS.ino (k + 1)):=HTE.out
     clear HTF HBY1 HTE HDB hlt
     obtain ⟨gF,hgF⟩:∃ gF:Nat → Int,gF = fun j => (x.s:Int) - (cntB (bt (T.L (x.st j))) x.s:Nat):=⟨_,rfl⟩
     obtain ⟨gE,hgE⟩:∃ gE:Nat → Int,gE = fun j => (x.i:Int) - (cntB (bt (T.L (x.st j + 1))) x.i:Nat):=⟨_,rfl⟩
     have HGF:Hid (∀ j,gF j = (x.s:Int) - (cntB (bt (T.L (x.st j))) x.s:Nat)):=fun j => by rw [hgF]
     have HGE:Hid (∀ j,gE j = (x.i:Int) - (cntB (bt (T.L (x.st j + 1))) x.i:Nat)):=fun j => by rw [hgE]
     clear hgF hgE
     go_wp2_with fail
     clear c0
     have ST0:Hid (EdT B M q Y (k + 1) w.heap.size (w.heap.size + 1) ds x { m with L:=T.L } OS.ino OS.o d P (frK gF 0) (frK gE 0) T.d w wr):=ST.out
     clear ST
     go_loopw [18,19,20] (fun u _ _ wr => ∃ t:Nat,t ≤ x.g ∧ u = .int .i64 (t:Int) ∧ EdT B M q Y (k + 1) w.heap.size (w.heap.size + 1) ds x { m with L:=T.L } OS.ino OS.o d P (frK gF t) (frK gE t) T.d w wr) (fun u _ _ _ => x.g - (intOf u).toNat)
     case atStart => exact ⟨0,Nat.zero_le _,rfl,ST0.out⟩
     case round =>
      clear ST0
      obtain ⟨t,ht,rfl,st⟩:=hrel
      have ST:=Lib.hid st
      clear st
      have c0:wr.cell? ⟨w.heap.size,0,none⟩ = some (.int .i64 (x.g:Int)):=ST.out.s.bx.cell (i:=0) rfl
      by_cases hlt:t < x.g
      ·have hlt':(t:Int) < (x.g:Int):=by omega
       have hrg:=ST.out.geo
       obtain ⟨h1,h2,h3,h4,h5,h6,h7,h8,h9,h10,h11⟩:=mayN HX.out.may
       have hs9:x.s ≤ 2048:=by have:=HX.out.n_le;have:=HX.out.st hlt (d:=x.s - 1) (by omega);omega
       have hi9:x.i ≤ 2048:=by omega
       have ht4:t ≤ 2048:=by omega
       have hst:=HX.out.st hlt (d:=0) (by omega)
       have hst1:=HX.out.st hlt (d:=1) (by omega)
       rw [Nat.add_zero] at hst
       have HSA:Hid (∀ W,Calls Tryz.prog 69 #[gval x.g x.s x.i x.j,.int .i64 (t:Int)] W fun e w' => e = .returned (.tuple #[.int .i64 ((x.st t:Nat):Int),.bool true]) ∧ Below W.heap.size W w'):=fun W => rStart5_any x.g x.s x.i x.j t HX.out.may hlt W
       have hgf:=HGF.out t
       have hge:=HGE.out t
       have HC1:Hid (∀ W,Calls Tryz.prog 70 #[bval (T.L (x.st t)),.int .i64 (x.s:Int)] W fun e w' => e = .returned (.int .i64 ((cntB (bt (T.L (x.st t))) x.s:Nat):Int)) ∧ Below W.heap.size W w'):=fun W => rCount4_any _ (HBY.out _) x.s hs9 W
       have HC2:Hid (∀ W,Calls Tryz.prog 70 #[bval (T.L (x.st t + 1)),.int .i64 (x.i:Int)] W fun e w' => e = .returned (.int .i64 ((cntB (bt (T.L (x.st t + 1))) x.i:Nat):Int)) ∧ Below W.heap.size W w'):=fun W => rCount4_any _ (HBY.out _) x.i hi9 W
       have hk1:=cntB_le (bt (T.L (x.st t))) x.s
       have hk2:=cntB_le (bt (T.L (x.st t + 1))) x.i
       obtain ⟨S,hS⟩:∃ S,S = x.st t:=⟨_,rfl⟩
       rw [← hS] at hst hst1 HSA hgf hge HC1 HC2 hk1 hk2
       obtain ⟨n1,hn1⟩:∃ n1,n1 = cntB (bt (T.L S)) x.s:=⟨_,rfl⟩
       obtain ⟨n2,hn2⟩:∃ n2,n2 = cntB (bt (T.L (S + 1))) x.i:=⟨_,rfl⟩
       rw [← hn1] at hgf HC1 hk1
       rw [← hn2] at hge HC2 hk2
       have HGT:=Lib.hid (And.intro hgf hge)
       have hst':(S:Int) < (x.n:Int):=by omega
       have hst1':(S:Int) + 1 < (x.n:Int):=by omega
       have hS9:S ≤ 2048:=by have:=HX.out.n_le;omega
       have w1_:wrap64 ((x.s:Int) - (n1:Int)) = (x.s:Int) - (n1:Int):=IntWalk.wrap64_in _ (by omega)
       have w2_:wrap64 ((x.i:Int) - (n2:Int)) = (x.i:Int) - (n2:Int):=IntWalk.wrap64_in _ (by omega)
       clear h1 h2 h3 h4 h5 h6 h7 h8 h9 h10 h11 hS hn1 hn2 hgf hge
       go_wp2_with (first | (refine wp_loadMid rfl 23 (.tmp 137) rfl w.heap.size 0 (gcells x.g x.s x.i x.j).toList _ rfl hrg Tryz.underlying23 rfl (by kernel_rfl) ?_))
       refine (HSA.out _).mono ?_
       rintro e w1 ⟨rfl,hb1⟩
       have ST1:=Lib.hid (ST.out.below hb1)
       clear ST hb1 hrg HSA c0
       go_wp2_with fail
       refine wp_region_bar2 (EdT B M q Y (k + 1) w.heap.size (w.heap.size + 1) ds x { m with L:=T.L } OS.ino OS.o d P (frK gF t) (frK gE t) T.d w) 19 (by kernel_rfl) (by kernel_rfl) (by kernel_rfl) (by kernel_rfl) (by kernel_rfl) (by decide) (ST1.out.below (Below.refl _ _).drew) ?_
       clear ST1
       simp only [List.take_succ_cons,List.take_zero,List.drop_succ_cons,List.drop_zero]
       intro hne
       have hc0:∀ y:InW (EdT B M q Y (k + 1) w.heap.size (w.heap.size + 1) ds x { m with L:=T.L } OS.ino OS.o d P (frK gF t) (frK gE t) T.d w),y.W.cell? ⟨M,0,none⟩ = some (.slice (some ⟨q,0,none⟩) x.n x.n):=fun y => y.h.s.h.p.c0
       have hcg:∀ y:InW (EdT B M q Y (k + 1) w.heap.size (w.heap.size + 1) ds x { m with L:=T.L } OS.ino OS.o d P (frK gF t) (frK gE t) T.d w),y.W.cell? ⟨w.heap.size,1,none⟩ = some (.int .i64 (x.s:Int)):=fun y => y.h.s.bx.cell (i:=1) rfl
       repeat (first | go_big_quiet_skip | (go_big_quiet_want;go_big_quiet_op;go_big_quiet_on))
       refine q_load rfl 32 (.tmp 153) rfl q (S * 256) rfl (bkF T.L S) _ (fun W h => by have:=RSeg.range h.s.h.p.im.seg S hst;rwa [Nat.zero_add] at this) Tryz.underlying32 rfl (by rw [bkF_len];exact info_block) ?_
       refine wpQuiet_frame (by simp only [Act.put,List.setIfInBounds_toArray,List.set_cons_succ,List.set_cons_zero];exact rfl) ?_
       repeat (first | go_big_quiet_skip | (go_big_quiet_want;go_big_quiet_op;go_big_quiet_on))
       go_big_quiet_want
       go_big_quiet_op
       refine ⟨_,fun s => q_call s (fun W hW => (HC1.out W).mono fun e w' h => ⟨h.1,hW.below h.2⟩),?_⟩
       go_big_quiet_on
       repeat (first | go_big_quiet_skip | (go_big_quiet_want;go_big_quiet_op;go_big_quiet_on))
       refine wpQuiet_nil ?_
       intro w2 h2'
       have ST2:=Lib.hid h2'.out
       clear h2' hne hc0 hcg
       have cd:=(ST2.out.c1 hlt).1
       have fd:=ST2.out.a.soft (t * 3)
       have ST3:=Lib.hid (ST2.out.putF hlt ((x.s:Int) - (n1:Int)))
       rw [show updN (frK gF t) t ((x.s:Int) - (n1:Int)) = frK gF (t + 1) by rw [← HGT.out.1,frK_next]] at ST3
       go_wp2_with fail
       clear cd fd ST2
       refine wp_region_bar2 (EdT B M q Y (k + 1) w.heap.size (w.heap.size + 1) ds x { m with L:=T.L } OS.ino OS.o d P (frK gF (t + 1)) (frK gE t) T.d w) 20 (by kernel_rfl) (by kernel_rfl) (by kernel_rfl) (by kernel_rfl) (by kernel_rfl) (by decide) (ST3.out.below (Below.refl _ _).drew) ?_
       clear ST3
       simp only [List.take_succ_cons,List.take_zero,List.drop_succ_cons,List.drop_zero]
       intro hne
       have hc0:∀ y:InW (EdT B M q Y (k + 1) w.heap.size (w.heap.size + 1) ds x { m with L:=T.L } OS.ino OS.o d P (frK gF (t + 1)) (frK gE t) T.d w),y.W.cell? ⟨M,0,none⟩ = some (.slice (some ⟨q,0,none⟩) x.n x.n):=fun y => y.h.s.h.p.c0
       have hcg:∀ y:InW (EdT B M q Y (k + 1) w.heap.size (w.heap.size + 1) ds x { m with L:=T.L } OS.ino OS.o d P (frK gF (t + 1)) (frK gE t) T.d w),y.W.cell? ⟨w.heap.size,2,none⟩ = some (.int .i64 (x.i:Int)):=fun y => y.h.s.bx.cell (i:=2) rfl
       repeat (first | go_big_quiet_skip | (go_big_quiet_want;go_big_quiet_op;go_big_quiet_on))
       refine q_load rfl 32 (.tmp 173) rfl q ((S + 1) * 256) rfl (bkF T.L (S + 1)) _ (fun W h => by have:=RSeg.range h.s.h.p.im.seg (S + 1) hst1;rwa [Nat.zero_add] at this) Tryz.underlying32 rfl (by rw [bkF_len];exact info_block) ?_
       refine wpQuiet_frame (by simp only [Act.put,List.setIfInBounds_toArray,List.set_cons_succ,List.set_cons_zero];exact rfl) ?_
       repeat (first | go_big_quiet_skip | (go_big_quiet_want;go_big_quiet_op;go_big_quiet_on))
       go_big_quiet_want
       go_big_quiet_op
       refine ⟨_,fun s => q_call s (fun W hW => (HC2.out W).mono fun e w' h => ⟨h.1,hW.below h.2⟩),?_⟩
       go_big_quiet_on
       repeat (first | go_big_quiet_skip | (go_big_quiet_want;go_big_quiet_op;go_big_quiet_on))
       refine wpQuiet_nil ?_
       intro w4 h4'
       have ST4:=Lib.hid h4'.out
       clear h4' hne hc0 hcg
       have cd:=(ST4.out.c1 hlt).2
       have fd:=ST4.out.a.soft (t * 3 + 1)
       have ST5:=Lib.hid (ST4.out.putE hlt ((x.i:Int) - (n2:Int)))
       rw [show updN (frK gE t) t ((x.i:Int) - (n2:Int)) = frK gE (t + 1) by rw [← HGT.out.2,frK_next]] at ST5
       go_wp2_with fail
       go_roundw
       case rel => first | exact ⟨t + 1,by omega,by go_num,ST5.out⟩ | ((repeat apply Exists.intro);refine ⟨?_,rfl⟩;exact ⟨t + 1,by omega,by go_num,ST5.out⟩)
       case measure => simp [intOf];omega
      ·obtain ht9:t = x.g:=by omega
       subst ht9
       have HFG:Hid (∀ j,j < x.g → frK gF x.g j = gF j):=fun j hj => by unfold frK;rw [if_pos hj]
       have HEG:Hid (∀ j,j < x.g → frK gE x.g j = gE j):=fun j hj => by unfold frK;rw [if_pos hj]
       go_wp2_with fail
       clear c0
       obtain ⟨z0,hz0⟩:∃ z0,z0 = supZ x.g x.s x.i x.j (OS.o:Nat):=⟨_,rfl⟩
       obtain ⟨E0,hE0⟩:∃ E0,E0 = supE x.g x.s x.i x.j (OS.o:Nat):=⟨_,rfl⟩
       have HSU:Hid (∀ W,Calls Tryz.prog 60 #[sval x.g x.s x.i x.j (OS.o:Nat)] W fun e w' => e = .returned (.tuple #[bval z0,.int .i64 E0]) ∧ Below W.heap.size W w'):=fun W => by
        rw [hz0,hE0];exact rsWrite_any x.g x.s x.i x.j (OS.o:Nat) HOO.out W
       have HZ0:=Lib.hid hz0
       clear hz0 hE0
       have hn2:2 ≤ x.n:=by have:=HX.out.st (k:=0) (d:=0) (by have:=(mayN HX.out.may).1;omega) (by have:=(mayN HX.out.may);omega);unfold Im.st at this;omega
       apply Vp.wp_region_pre 10 (fun l kk v W => v = undef) (fun l W => SAB 10 10 (EdT B M q Y (k + 1) w.heap.size (w.heap.size + 1) ds x { m with L:=T.L } OS.ino OS.o d P (frK gF x.g) (frK gE x.g) T.d w) (EdT B M q Y (k + 1) w.heap.size (w.heap.size + 1) ds x { m with L:=updN T.L 0 z0 } OS.ino OS.o d P (frK gF x.g) (frK gE x.g) T.d w) l W) (C28 M q x.n (w.heap.size + 1) (sucells x OS.o))
       case hm => kernel_rfl
       case hd => kernel_rfl
       case hpre => kernel_rfl
       case hB => kernel_rfl
       case hVl => exact fun l l' he i v W h => h
       case hS => exact fun l l' W he h => h.lists (he 10 (by decide) (by decide)) (he 10 (by decide) (by decide))
       case hSC => exact fun l W h => SAB.all (C:=C28 M q x.n (w.heap.size + 1) (sucells x OS.o)) h (fun h => ⟨h.s.h.p.c0,h.s.su,h.s.h.p.lM⟩) (fun h => ⟨h.s.h.p.c0,h.s.su,h.s.h.p.lM⟩)
       case hVb => exact fun l i v W W' h hb => h
       case hSb => exact fun l W W' h hb _ => h.mono (fun h => h.below hb) (fun h => h.below hb)
       case h0 => exact ⟨fun _ => ST.out.below ⟨rfl,rfl,rfl,Nat.le_refl _,fun _ _ => rfl⟩,fun e => by cases e⟩
       case hwalk =>
        simp only [List.take_succ_cons,List.take_zero]
        intro R hR hne
        have hc0:∀ y:InW (fun W => C28 M q x.n (w.heap.size + 1) (sucells x OS.o) W ∧ R W),y.W.cell? ⟨M,0,none⟩ = some (.slice (some ⟨q,0,none⟩) x.n x.n):=fun y => y.h.1.c0
        repeat (first | go_big_quiet_skip | (go_big_quiet_want;go_big_quiet_op;go_big_quiet_on))
        refine q_load rfl 47 (.tmp 7) rfl (w.heap.size + 1) 0 rfl (sucells x OS.o).toList _ (fun W h => h.1.su.range) Tryz.underlying47 rfl (by kernel_rfl) ?_
        refine wpQuiet_frame (by simp only [Act.put,List.setIfInBounds_toArray,List.set_cons_succ,List.set_cons_zero];exact rfl) ?_
        go_big_quiet_want
        go_big_quiet_op
        refine ⟨_,fun s => q_call s (fun W hW => (HSU.out W).mono fun e w' h => ⟨h.1,hW.1.below h.2,hR _ _ hW.2 h.2⟩),?_⟩
        go_big_quiet_on
        repeat (first | go_big_quiet_skip | (go_big_quiet_want;go_big_quiet_op;go_big_quiet_on))
        exact wpQuiet_nil rfl
       case hst =>
        simp only [List.drop_succ_cons,List.drop_zero]
        refine ⟨?_,trivial⟩
        intro l ac W hl hu h
        have e1:ac.tmps.getD 191 undef = .pointer (some ⟨q,0,none⟩):=(h.vals 9 191 (op_up hu 9 (by kernel_rfl)) rfl).pre (by decide) rfl
        have e2:ac.tmps.getD 189 undef = bval z0:=(h.vals 7 189 (op_up hu 7 (by kernel_rfl)) rfl).pre (by decide) rfl
        have hs:=h.st.no hl
        have hth:W.there q 0 (Ks .u8 256 z0).toArray.size:=by rw [Ks_size];have:=hs.s.h.p.im.there (k:=0) (by omega);rwa [Nat.zero_mul] at this
        have hpp:=hs.s.h.p.put (b:=0) (by omega) z0
        rw [Nat.zero_mul] at hpp
        refine Vm.step h (by kernel_rfl) rfl rfl rfl hl (Vl.op_stmid 32 (.tmp 191) (.tmp 189) rfl q 0 (Ks .u8 256 z0).toArray e1 e2 hth (by rw [Ks_size];exact info_block) (Ks_one _ _ _) ?_)
        exact ⟨_,rfl,fun i d _ _ hv => hv.up fun _ hv => hv,Vp.W.mk (by decide) rfl,⟨fun e => (by have e:true = false:=e;cases e),fun _ => ⟨hs.to (hs.self.turn hpp.1 (.of_only hpp.2 (.inr rfl))),rfl⟩⟩⟩
       intro a' w5 h hall
       have hall2:=hall [] (by kernel_rfl)
       clear hall
       have ST5:Hid (EdT B M q Y (k + 1) w.heap.size (w.heap.size + 1) ds x { m with L:=updN T.L 0 z0 } OS.ino OS.o d P (frK gF x.g) (frK gE x.g) T.d w w5):=(h.st.ye rfl).1
       rw [List.foldl_nil] at hall2
       subst hall2
       clear h ST HSU
       go_wp2_with fail
       have ST6:=Lib.hid (ST5.out.congr HFG.out HEG.out)
       clear ST5 HFG HEG
       obtain ⟨z1,hz1⟩:∃ z1,z1 = descZ x.g x.s x.i x.j x.g gF gE T.d:=⟨_,rfl⟩
       obtain ⟨E1,hE1⟩:∃ E1,E1 = descE x.g x.s x.i x.j x.g gF gE T.d:=⟨_,rfl⟩
       have HDS:Hid (∀ W,RArr W ds 67 3 x.g (dcF gF gE T.d) → Calls Tryz.prog 61 #[gval x.g x.s x.i x.j,.slice (some ⟨ds,0,none⟩) x.g x.g] W fun e w' => e = .returned (.tuple #[bval z1,.int .i64 E1]) ∧ Below W.heap.size W w'):=fun W hW => by
        rw [hz1,hE1];exact rsWriteDescs_any x.g x.s x.i x.j (some ⟨ds,0,none⟩) x.g x.g gF gE T.d (by have:=(mayN HX.out.may);omega) W (.inr ⟨ds,0,rfl,hW.seg⟩)
       have HZ1:=Lib.hid hz1
       clear hz1 hE1
       apply Vp.wp_region_pre 12 (fun l kk v W => v = undef) (fun l W => SAB 12 12 (EdT B M q Y (k + 1) w.heap.size (w.heap.size + 1) ds x { m with L:=updN T.L 0 z0 } OS.ino OS.o d P gF gE T.d w) (EdT B M q Y (k + 1) w.heap.size (w.heap.size + 1) ds x { m with L:=updN (updN T.L 0 z0) 1 z1 } OS.ino OS.o d P gF gE T.d w) l W) (C29 M q x.n w.heap.size ds x.g (gcells x.g x.s x.i x.j).toList (dcF gF gE T.d))
       case hm => kernel_rfl
       case hd => kernel_rfl
       case hpre => kernel_rfl
       case hB => kernel_rfl
       case hVl => exact fun l l' he i v W h => h
       case hS => exact fun l l' W he h => h.lists (he 12 (by decide) (by decide)) (he 12 (by decide) (by decide))
       case hSC => exact fun l W h => SAB.all (C:=C29 M q x.n w.heap.size ds x.g (gcells x.g x.s x.i x.j).toList (dcF gF gE T.d)) h (fun h => ⟨h.s.h.p.c0,h.geo,h.a,h.s.h.p.lM,h.s.bx.lt⟩) (fun h => ⟨h.s.h.p.c0,h.geo,h.a,h.s.h.p.lM,h.s.bx.lt⟩)
       case hVb => exact fun l i v W W' h hb => h
       case hSb => exact fun l W W' h hb _ => h.mono (fun h => h.below hb) (fun h => h.below hb)
       case h0 => exact ⟨fun _ => ST6.out.below ⟨rfl,rfl,rfl,Nat.le_refl _,fun _ _ => rfl⟩,fun e => by cases e⟩
       case hwalk =>
        simp only [List.take_succ_cons,List.take_zero]
        intro R hR hne
        have hc0:∀ y:InW (fun W => C29 M q x.n w.heap.size ds x.g (gcells x.g x.s x.i x.j).toList (dcF gF gE T.d) W ∧ R W),y.W.cell? ⟨M,0,none⟩ = some (.slice (some ⟨q,0,none⟩) x.n x.n):=fun y => y.h.1.c0
        repeat (first | go_big_quiet_skip | (go_big_quiet_want;go_big_quiet_op;go_big_quiet_on))
        refine q_load rfl 23 (.tmp 197) rfl w.heap.size 0 rfl (gcells x.g x.s x.i x.j).toList _ (fun W h => h.1.geo) Tryz.underlying23 rfl (by kernel_rfl) ?_
        refine wpQuiet_frame (by simp only [Act.put,List.setIfInBounds_toArray,List.set_cons_succ,List.set_cons_zero];exact rfl) ?_
        repeat (first | go_big_quiet_skip | (go_big_quiet_want;go_big_quiet_op;go_big_quiet_on))
        go_big_quiet_want
        go_big_quiet_op
        refine ⟨_,fun s => q_call s (fun W hW => (HDS.out W hW.1.a).mono fun e w' h => ⟨h.1,hW.1.below h.2,hR _ _ hW.2 h.2⟩),?_⟩
        go_big_quiet_on
        repeat (first | go_big_quiet_skip | (go_big_quiet_want;go_big_quiet_op;go_big_quiet_on))
        exact wpQuiet_nil rfl
       case hst =>
        simp only [List.drop_succ_cons,List.drop_zero]
        refine ⟨?_,trivial⟩
        intro l ac W hl hu h
        have e1:ac.tmps.getD 203 undef = .pointer (some ⟨q,256,none⟩):=(h.vals 11 203 (op_up hu 11 (by kernel_rfl)) rfl).pre (by decide) rfl
        have e2:ac.tmps.getD 201 undef = bval z1:=(h.vals 9 201 (op_up hu 9 (by kernel_rfl)) rfl).pre (by decide) rfl
        have hs:=h.st.no hl
        have hth:W.there q 256 (Ks .u8 256 z1).toArray.size:=by rw [Ks_size];have:=hs.s.h.p.im.there (k:=1) (by omega);rwa [Nat.one_mul] at this
        have hpp:=hs.s.h.p.put (b:=1) (by omega) z1
        rw [Nat.one_mul] at hpp
        refine Vm.step h (by kernel_rfl) rfl rfl rfl hl (Vl.op_stmid 32 (.tmp 203) (.tmp 201) rfl q 256 (Ks .u8 256 z1).toArray e1 e2 hth (by rw [Ks_size];exact info_block) (Ks_one _ _ _) ?_)
        exact ⟨_,rfl,fun i d _ _ hv => hv.up fun _ hv => hv,Vp.W.mk (by decide) rfl,⟨fun e => (by have e:true = false:=e;cases e),fun _ => ⟨hs.to (hs.self.turn hpp.1 (.of_only hpp.2 (.inr rfl))),rfl⟩⟩⟩
       intro a' w7 h hall
       have hall2:=hall [] (by kernel_rfl)
       clear hall
       have ST7:Hid (EdT B M q Y (k + 1) w.heap.size (w.heap.size + 1) ds x { m with L:=updN (updN T.L 0 z0) 1 z1 } OS.ino OS.o d P gF gE T.d w w7):=(h.st.ye rfl).1
       rw [List.foldl_nil] at hall2
       subst hall2
       clear h ST6 HDS
       go_wp2_with fail
       have HHL:Hid (PlanD.headsL x OS.o T = updN (updN T.L 0 z0) 1 z1):=by
        show _ = _
        unfold PlanD.headsL
        rw [HZ0.out,HZ1.out,show gF = _ from funext HGF.out,show gE = _ from funext HGE.out]
       obtain ⟨L0,hL0⟩:∃ L0,L0 = PlanD.headsL x OS.o T:=⟨_,rfl⟩
       have HL0:=Lib.hid hL0
       have HBL0:Hid (∀ b,Byt (L0 b)):=by show ∀ b,Byt (L0 b);rw [hL0];exact headsL_byt HBY.out
       have ST8:Hid (EdS B M q Y (k + 1) w.heap.size (w.heap.size + 1) x { m with L:=L0 } OS.ino OS.o d P w w7):=by
        show EdS _ _ _ _ _ _ _ _ _ _ _ _ _ _ _
        rw [hL0,HHL.out];exact ST7.out.s
       clear hL0 HHL ST7 HZ0 HZ1 HGF HGE
       obtain ⟨Lc,hLc⟩:∃ Lc:Nat → Nat → Nat → Int,Lc = fun t => PlanD.itr (P.chgF x.n) t L0:=⟨_,rfl⟩
       have HC0:Hid (Lc 0 = L0):=by show _ = _;rw [hLc];rfl
       have HCS:Hid (∀ t,Lc (t + 1) = P.chgF x.n t (Lc t)):=fun t => by rw [hLc];rfl
       have HCB:Hid (∀ t b,Byt (Lc t b)):=fun t b => by rw [hLc];exact chg_byt HBD.out HBL0.out t b
       have HLC:=Lib.hid hLc
       clear hLc
       go_loopw [21,22,23] (fun u _ _ wr => ∃ t:Nat,t ≤ P.nc ∧ u = .int .i64 (t:Int) ∧ EdS B M q Y (k + 1) w.heap.size (w.heap.size + 1) x { m with L:=Lc t } OS.ino OS.o d P w wr) (fun u _ _ _ => P.nc - (intOf u).toNat)
       case atStart => exact ⟨0,Nat.zero_le _,rfl,by rw [HC0.out];exact ST8.out⟩
       case round =>
        clear ST8
        obtain ⟨t,ht,rfl,st⟩:=hrel
        have ST:=Lib.hid st
        have c5:wr.cell? ⟨w.heap.size,5,none⟩ = some (.slice d.ca P.nc d.cc):=st.bx.cell (i:=5) rfl
        clear st
        by_cases hlt:t < P.nc
        ·have hlt':(t:Int) < (P.nc:Int):=by omega
         have hnc9:=HSM.out.nc
         obtain ⟨cb,co,hca,-⟩:=ST.out.r.c.cell (j:=0) hlt rfl
         have hrg:wr.rangeAt cb (co + t * 3) (cgR P t):=fun j v hv => by
          obtain ⟨b',o',e,hc⟩:=ST.out.r.c.cell hlt hv
          rw [hca] at e;cases e;exact hc
         rw [hca] at c5
         have HCH:=Lib.hid (HCS.out t)
         have hA0:At (wr.alloc (.cells #[.int .i64 0,.int .i64 0,.int .u8 0] 149)) wr.heap.size 149 #[.int .i64 0,.int .i64 0,.int .u8 0]:=At.new _ _ _
         clear hca
         go_wp2_with (first | (refine wp_loadMid rfl 149 (.tmp 214) rfl cb (co + t * 3) (cgR P t) _ rfl hrg Tryz.underlying149 rfl (by kernel_rfl) ?_) | (refine wp_storeAt rfl 149 (.tmp 22) (.tmp 215) rfl wr.heap.size #[.int .i64 (P.cb t),.int .i64 (P.ca t),.int .u8 (P.co t)] _ rfl rfl hA0 (info_chg _ _ _) rfl (one_chg _ _ _) ?_))
         intro w1 ha1 ho1
         have ST1:=Lib.hid (ST.out.chg (t:=t) ha1 ho1)
         clear ST ha1 ho1 hA0 hrg c5
         obtain ⟨c,hc⟩:∃ c,c = wr.heap.size:=⟨_,rfl⟩
         rw [← hc] at ST1 ⊢
         clear hc
         have hcb9:=HBD.out.cb t
         have hca9:=HBD.out.ca t
         have hco9:=HBD.out.co t
         obtain ⟨vb,hvb⟩:∃ vb,vb = P.cb t:=⟨_,rfl⟩
         obtain ⟨va,hva⟩:∃ va,va = P.ca t:=⟨_,rfl⟩
         obtain ⟨vo,hvo⟩:∃ vo,vo = P.co t:=⟨_,rfl⟩
         have HCH2:Hid (Lc (t + 1) = if 0 ≤ vb ∧ vb < (x.n:Int) then updN (Lc t) vb.toNat (over (Lc t vb.toNat) (va % 256).toNat 1 (fun _ => (((Lc t vb.toNat (va % 256).toNat).toNat ^^^ vo.toNat:Nat):Int))) else Lc t):=by
          show _ = _
          rw [HCH.out,PlanD.chgF,← hvb,← hva,← hvo]
         rw [← hvb] at hcb9
         rw [← hva] at hca9
         rw [← hvo] at hco9
         have HVV:=Lib.hid (And.intro hvb (And.intro hva hvo))
         clear hvb hva hvo HCH
         have HK0:Hid (∀ W,EdC B M q Y (k + 1) w.heap.size (w.heap.size + 1) c x { m with L:=Lc t } OS.ino OS.o d P t w W → W.cell? ⟨c,0,none⟩ = some (.int .i64 vb) ∧ W.cell? ⟨c,1,none⟩ = some (.int .i64 va) ∧ W.cell? ⟨c,2,none⟩ = some (.int .u8 vo)):=fun W h => by
          rw [HVV.out.1,HVV.out.2.1,HVV.out.2.2]
          exact ⟨h.a.cell (i:=0) rfl,h.a.cell (i:=1) rfl,h.a.cell (i:=2) rfl⟩
         go_wp2_with fail
         by_cases hb0:0 ≤ vb
         rotate_left
         ·have q1:decide ((0:Int) ≤ vb) = false:=decide_eq_false hb0
          refine wp_region_S (EdC B M q Y (k + 1) w.heap.size (w.heap.size + 1) c x { m with L:=Lc t } OS.ino OS.o d P t w) (by kernel_rfl) (by kernel_rfl) (ST1.out.below (Below.refl _ _).drew) ?_
          clear ST1
          intro hne
          have hcb:∀ y:InW (EdC B M q Y (k + 1) w.heap.size (w.heap.size + 1) c x { m with L:=Lc t } OS.ino OS.o d P t w),y.W.cell? ⟨c,0,none⟩ = some (.int .i64 vb):=fun y => (HK0.out _ y.h).1
          repeat (first | go_big_quiet_skip | (go_big_quiet_want;go_big_quiet_op;go_big_quiet_on))
          refine wpQuiet_nil ?_
          intro w2 h2'
          have ST2:=Lib.hid h2'.out
          clear h2' hne hcb
          have HC2:Hid (Lc (t + 1) = Lc t):=by show _ = _;rw [HCH2.out,if_neg (fun h => hb0 h.1)]
          go_wp2_with fail
          go_roundw
          case rel => first | exact ⟨t + 1,by omega,by go_num,by rw [HC2.out];exact ST2.out.s⟩ | ((repeat apply Exists.intro);refine ⟨?_,rfl⟩;exact ⟨t + 1,by omega,by go_num,by rw [HC2.out];exact ST2.out.s⟩)
          case measure => simp [intOf];omega
         obtain ⟨b,rfl⟩:∃ b:Nat,vb = (b:Int):=⟨vb.toNat,by omega⟩
         rw [Int.toNat_natCast] at HCH2
         by_cases hbn:b < x.n
         rotate_left
         ·have hbn':¬ (b:Int) < (x.n:Int):=by omega
          refine wp_region_S (EdC B M q Y (k + 1) w.heap.size (w.heap.size + 1) c x { m with L:=Lc t } OS.ino OS.o d P t w) (by kernel_rfl) (by kernel_rfl) (ST1.out.below (Below.refl _ _).drew) ?_
          clear ST1
          intro hne
          have hcb:∀ y:InW (EdC B M q Y (k + 1) w.heap.size (w.heap.size + 1) c x { m with L:=Lc t } OS.ino OS.o d P t w),y.W.cell? ⟨c,0,none⟩ = some (.int .i64 (b:Int)):=fun y => (HK0.out _ y.h).1
          have hc0:∀ y:InW (EdC B M q Y (k + 1) w.heap.size (w.heap.size + 1) c x { m with L:=Lc t } OS.ino OS.o d P t w),y.W.cell? ⟨M,0,none⟩ = some (.slice (some ⟨q,0,none⟩) x.n x.n):=fun y => y.h.s.h.p.c0
          repeat (first | go_big_quiet_skip | (go_big_quiet_want;go_big_quiet_op;go_big_quiet_on))
          refine wpQuiet_nil ?_
          intro w2 h2'
          have ST2:=Lib.hid h2'.out
          clear h2' hne hcb hc0
          have HC2:Hid (Lc (t + 1) = Lc t):=by show _ = _;rw [HCH2.out,if_neg (fun h => hbn' h.2)]
          go_wp2_with fail
          go_roundw
          case rel => first | exact ⟨t + 1,by omega,by go_num,by rw [HC2.out];exact ST2.out.s⟩ | ((repeat apply Exists.intro);refine ⟨?_,rfl⟩;exact ⟨t + 1,by omega,by go_num,by rw [HC2.out];exact ST2.out.s⟩)
          case measure => simp [intOf];omega
         have hbn':(b:Int) < (x.n:Int):=by omega
         obtain ⟨a,ha⟩:∃ a,a = (va % 256).toNat:=⟨_,rfl⟩
         have ha9:a < 256:=by omega
         obtain ⟨hr1,hr2⟩:=rem_at va
         rw [← ha] at HCH2 hr2
         have HC2:Hid (Lc (t + 1) = updN (Lc t) b (over (Lc t b) a 1 (fun _ => (((Lc t b a).toNat ^^^ vo.toNat:Nat):Int)))):=by show _ = _;rw [HCH2.out,if_pos ⟨hb0,hbn'⟩]
         have hz9:=HCB.out t b a
         have hxor:=u8_xor (Lc t b a) vo hz9.1 hz9.2 hco9.1 hco9.2
         clear ha HCH2
         refine wp_region_S (EdC B M q Y (k + 1) w.heap.size (w.heap.size + 1) c x { m with L:=Lc t } OS.ino OS.o d P t w) (by kernel_rfl) (by kernel_rfl) (ST1.out.below (Below.refl _ _).drew) ?_
         clear ST1
         intro hne
         have hcb:∀ y:InW (EdC B M q Y (k + 1) w.heap.size (w.heap.size + 1) c x { m with L:=Lc t } OS.ino OS.o d P t w),y.W.cell? ⟨c,0,none⟩ = some (.int .i64 (b:Int)):=fun y => (HK0.out _ y.h).1
         have hc0:∀ y:InW (EdC B M q Y (k + 1) w.heap.size (w.heap.size + 1) c x { m with L:=Lc t } OS.ino OS.o d P t w),y.W.cell? ⟨M,0,none⟩ = some (.slice (some ⟨q,0,none⟩) x.n x.n):=fun y => y.h.s.h.p.c0
         repeat (first | go_big_quiet_skip | (go_big_quiet_want;go_big_quiet_op;go_big_quiet_on))
         refine wpQuiet_nil ?_
         intro w2 h2'
         have ST2:=Lib.hid h2'.out
         clear h2' hne hcb hc0
         have c1:=(HK0.out _ ST2.out).2.1
         go_wp2_with fail
         clear c1
         refine wp_region_bar2 (EdC B M q Y (k + 1) w.heap.size (w.heap.size + 1) c x { m with L:=Lc t } OS.ino OS.o d P t w) 22 (by kernel_rfl) (by kernel_rfl) (by kernel_rfl) (by kernel_rfl) (by kernel_rfl) (by decide) (ST2.out.below (Below.refl _ _).drew) ?_
         clear ST2
         simp only [List.take_succ_cons,List.take_zero,List.drop_succ_cons,List.drop_zero]
         intro hne
         have hcb:∀ y:InW (EdC B M q Y (k + 1) w.heap.size (w.heap.size + 1) c x { m with L:=Lc t } OS.ino OS.o d P t w),y.W.cell? ⟨c,0,none⟩ = some (.int .i64 (b:Int)):=fun y => (HK0.out _ y.h).1
         have hco:∀ y:InW (EdC B M q Y (k + 1) w.heap.size (w.heap.size + 1) c x { m with L:=Lc t } OS.ino OS.o d P t w),y.W.cell? ⟨c,2,none⟩ = some (.int .u8 vo):=fun y => (HK0.out _ y.h).2.2
         have hc0:∀ y:InW (EdC B M q Y (k + 1) w.heap.size (w.heap.size + 1) c x { m with L:=Lc t } OS.ino OS.o d P t w),y.W.cell? ⟨M,0,none⟩ = some (.slice (some ⟨q,0,none⟩) x.n x.n):=fun y => y.h.s.h.p.c0
         have hcz:∀ y:InW (EdC B M q Y (k + 1) w.heap.size (w.heap.size + 1) c x { m with L:=Lc t } OS.ino OS.o d P t w),y.W.cell? ⟨q,b * 256 + a,none⟩ = some (.int .u8 (Lc t b a)):=fun y => y.h.s.h.p.seg hbn a ha9
         repeat (first | go_big_quiet_skip | (go_big_quiet_want;go_big_quiet_op;go_big_quiet_on))
         refine wpQuiet_nil ?_
         intro w3 h3'
         have ST3:=Lib.hid h3'.out
         clear h3' hne hcb hco hc0 hcz
         have cz:w3.cell? ⟨q,b * 256 + a,none⟩ = some (.int .u8 (Lc t b a)):=ST3.out.s.h.p.seg hbn a ha9
         have fz:=ST3.out.s.h.p.im.soft (b * 256 + a)
         have hpt:Puts q (b * 256 + a) 1 (fun _ => (((Lc t b a).toNat ^^^ vo.toNat:Nat):Int)) w3 (w3.setCell ⟨q,b * 256 + a,none⟩ (.int .u8 (((Lc t b a).toNat ^^^ vo.toNat:Nat):Int))) :=
          (Puts.nil q (b * 256 + a) (fun _ => (((Lc t b a).toNat ^^^ vo.toNat:Nat):Int)) w3).snoc (u:=.int .u8 (Lc t b a)) cz rfl
         have ST4:=Lib.hid (ST3.out.to (ST3.out.s.self.turn (ST3.out.s.h.p.puts hbn (by omega) hpt) (.of_only hpt.only (.inr rfl))))
         clear ST3 hpt
         go_wp2_with fail
         go_roundw
         case rel => first | exact ⟨t + 1,by omega,by go_num,by rw [HC2.out];exact ST4.out.s⟩ | ((repeat apply Exists.intro);refine ⟨?_,rfl⟩;exact ⟨t + 1,by omega,by go_num,by rw [HC2.out];exact ST4.out.s⟩)
         case measure => simp [intOf];omega
        ·obtain rfl:t = P.nc:=by omega
         have HEND:Hid (P.endL x m.L ys k = if P.sums then PlanD.sumF 1 (PlanD.sumF 0 (Lc P.nc)) else Lc P.nc):=by
          show _ = _
          unfold PlanD.endL
          dsimp only
          rw [← HOSE.out,← HTT.out,← HL0.out,HLC.out]
         obtain ⟨LF,hLF⟩:∃ LF,LF = Lc P.nc:=⟨_,rfl⟩
         have HBF:Hid (∀ b,Byt (LF b)):=by show ∀ b,_;rw [hLF];exact HCB.out P.nc
         rw [← hLF] at ST HEND
         clear hLF HC0 HCS HCB HLC HL0 HBL0 HTT HBY hlt
         obtain ⟨Ls,hLs⟩:∃ Ls:Nat → Nat → Nat → Int,Ls = fun t => PlanD.itr PlanD.sumF t LF:=⟨_,rfl⟩
         have HS0:Hid (Ls 0 = LF):=by show _ = _;rw [hLs];rfl
         have HS2:Hid (PlanD.sumF 1 (PlanD.sumF 0 LF) = Ls 2):=by show _ = _;rw [hLs];rfl
         have HSS:Hid (∀ t,Ls (t + 1) = updN (Ls t) t (over (Ls t t) 252 4 (byteOf (crcZ (Ls t t) 252)))):=fun t => by rw [hLs];rfl
         have HSB:Hid (∀ t b,Byt (Ls t b)):=fun t => by
          rw [hLs]
          induction t with
          | zero => exact HBF.out
          | succ t ih => exact sum_byt ih
         obtain ⟨sm,hsm⟩:∃ sm,sm = P.sums:=⟨_,rfl⟩
         rw [← hsm,HS2.out] at HEND
         have HSMM:=Lib.hid hsm
         clear hLs hsm HS2
         go_wp2_with fail
         clear c5
         have ST0:Hid (EdS B M q Y (k + 1) w.heap.size (w.heap.size + 1) x { m with L:=Ls 0 } OS.ino OS.o d P w wr):=by rw [HS0.out];exact ST.out
         clear ST
         go_loopw [24] (fun u wr => ∃ t:Nat,t ≤ 2 ∧ (sm = false → t = 0) ∧ u = .int .i64 (t:Int) ∧ EdS B M q Y (k + 1) w.heap.size (w.heap.size + 1) x { m with L:=Ls t } OS.ino OS.o d P w wr) (fun u _ => 2 - (intOf u).toNat)
         case atStart => exact ⟨0,Nat.zero_le _,fun _ => rfl,rfl,ST0.out⟩
         case round =>
          clear ST0
          obtain ⟨t,ht,hts,rfl,st⟩:=hrel
          have ST:=Lib.hid st
          clear st
          have c6:wr.cell? ⟨w.heap.size,6,none⟩ = some (.bool sm):=by rw [HSMM.out];exact ST.out.bx.cell (i:=6) rfl
          have c0:=ST.out.h.p.c0
          by_cases ht2:t < 2
          ·have ht2':(t:Int) < 2:=by omega
           cases sm with
           | false =>
            obtain rfl:=hts rfl
            have HE:Hid ((∀ b,Byt (P.endL x m.L ys k b)) ∧ HgS M q Y (k + 1) x { m with L:=P.endL x m.L ys k } (P.orps ys k).ino w wr):=by
             have e:P.endL x m.L ys k = Ls 0:=by rw [HEND.out,HS0.out];rfl
             have h:=ST.out.h
             rw [HOSE.out] at h
             rw [e]
             exact ⟨HSB.out 0,h⟩
            clear ST HEND HSB HSS HS0 HBF HSMM hts ht
            go_wp2_with fail
            go_ret
            exact ⟨rfl,HE.out⟩
           | true =>
            have htn:t < x.n:=by omega
            have htn':(t:Int) < (x.n:Int):=by omega
            have hsa:=fun W => run_sliceBlkAll q (t * 256) W
            have hsb:=fun W => run_sliceBlkToO q (t * 256) 252 252 rfl (by decide) W
            have hcb:=crcZ_bd (Ls t t) 252
            obtain ⟨vc,hvc⟩:∃ vc,vc = crcZ (Ls t t) 252:=⟨_,rfl⟩
            have HS1:=Lib.hid (HSS.out t)
            rw [← hvc] at hcb HS1
            have HSUM:Hid (∀ W,EdS B M q Y (k + 1) w.heap.size (w.heap.size + 1) x { m with L:=Ls t } OS.ino OS.o d P w W → Calls Tryz.prog 72 #[.slice (some ⟨q,t * 256,none⟩) 252 256] W fun e w' => e = .returned (.int .u32 vc) ∧ W = w'):=fun W h => by
             rw [hvc]
             exact rSum_any (some ⟨q,t * 256,none⟩) 252 256 (Ls t t) W (by decide) (.inr ⟨q,t * 256,rfl,fun o ho => h.h.p.seg htn o (by omega)⟩) (HSB.out t t)
            clear hvc
            go_wp2_with fail
            clear c6 c0
            refine wp_region_bar2 (EdS B M q Y (k + 1) w.heap.size (w.heap.size + 1) x { m with L:=Ls t } OS.ino OS.o d P w) 15 (by kernel_rfl) (by kernel_rfl) (by kernel_rfl) (by kernel_rfl) (by kernel_rfl) (by decide) (ST.out.below (Below.refl _ _).drew) ?_
            clear ST
            simp only [List.take_succ_cons,List.take_zero,List.drop_succ_cons,List.drop_zero]
            intro hne
            have hc0:∀ y:InW (EdS B M q Y (k + 1) w.heap.size (w.heap.size + 1) x { m with L:=Ls t } OS.ino OS.o d P w),y.W.cell? ⟨M,0,none⟩ = some (.slice (some ⟨q,0,none⟩) x.n x.n):=fun y => y.h.h.p.c0
            repeat (first | go_big_quiet_skip | (go_big_quiet_want;go_big_quiet_op;go_big_quiet_on))
            go_big_quiet_want
            go_big_quiet_op
            refine ⟨_,fun s => q_call s (fun W hW => (HSUM.out W hW).mono fun e w' h => ⟨h.1,h.2 ▸ hW⟩),?_⟩
            go_big_quiet_on
            refine wpQuiet_nil ?_
            intro w3 h3'
            have ST3:=Lib.hid h3'.out
            clear h3' hne hc0 HSUM
            go_wp2_with fail
            refine (rput32_yes q (t * 256) 256 256 252 vc (Ls t t) w3 (by decide) (by decide) (by decide) hcb.1 hcb.2 (fun o ho => ST3.out.h.p.seg htn o ho) (HSB.out t t) (fun i hi => ST3.out.h.p.im.soft (t * 256 + i))).mono ?_
            rintro e w4 ⟨rfl,hpt⟩
            have ST4:=Lib.hid (ST3.out.to (ST3.out.self.turn (ST3.out.h.p.puts htn (by decide) hpt) (.of_only hpt.only (.inr rfl))))
            clear ST3 hpt
            go_wp2_with fail
            go_roundw
            case rel => first | exact ⟨t + 1,by omega,(fun e => by cases e),by go_num,by rw [HS1.out];exact ST4.out⟩ | ((repeat apply Exists.intro);refine ⟨?_,rfl⟩;exact ⟨t + 1,by omega,(fun e => by cases e),by go_num,by rw [HS1.out];exact ST4.out⟩)
            case measure => simp [intOf];omega
          ·obtain rfl:t = 2:=by omega
           cases sm with
           | false => exact absurd (hts rfl) (by decide)
           | true =>
            have HE:Hid ((∀ b,Byt (P.endL x m.L ys k b)) ∧ HgS M q Y (k + 1) x { m with L:=P.endL x m.L ys k } (P.orps ys k).ino w wr):=by
             have e:P.endL x m.L ys k = Ls 2:=HEND.out
             have h:=ST.out.h
             rw [HOSE.out] at h
             rw [e]
             exact ⟨HSB.out 2,h⟩
            clear ST HEND HSB HSS HS0 HBF HSMM hts ht ht2
            go_wp2_with fail
            go_ret
            exact ⟨rfl,HE.out⟩
end Go.Proofs.YtphamecphmbipaaGreatDoor
