/- Texts of this claim, merged by a program (a claim may have 60 files): WCkA, WCkB, Pl2, WCkC. -/
import Derived.Test.YtphamecphmbipaaGreatDoorK43
import Derived.Test.YtphamecphmbipaaGreatDoorK23
import Derived.Test.YtphamecphmbipaaGreatDoorK19
import Derived.Test.YtphamecphmbipaaGreatDoorK42
import Derived.Test.YtphamecphmbipaaGreatDoorK14
namespace Go.Proofs.YtphamecphmbipaaGreatDoor
open Go.RowKit
set_option linter.unusedVariables false
theorem OldR.wide {B B':Nat} {W:World} {a:Option Addr} {m n:Nat} {f:Nat → List Value} (h:OldR B W a m n f) (hB:B ≤ B'):OldR B' W a m n f:=⟨h.1,fun b off e hn => Nat.lt_of_lt_of_le (h.2 b off e hn) hB⟩
theorem PlnR.wide {B B':Nat} {d:PlAd} {P:PlanD} {W:World} (h:PlnR B d P W) (hB:B ≤ B'):PlnR B' d P W:=⟨h.f.wide hB,fun i hi => (h.b i hi).wide hB,fun i hi => (h.n i hi).wide hB,h.c.wide hB⟩
theorem of_upd {L L':Nat → Nat → Int} (n:Nat) (h0:L' 0 = L 0):Im.of L' n = { Im.of L n with L:=L' }:=by
 unfold Im.of;rw [h0]
def ImgW (w:World) (e:Ending) (w':World):Prop :=
 Below w.heap.size w w' ∧ ∃ (a:Option Addr) (n c:Nat) (L:Nat → Nat → Int),e = .returned (.slice a n c) ∧ ImV w' (.slice a n c) n L ∧ (∀ b,Byt (L b)) ∧ n ≤ 2048 ∧ (0 < n → ∃ q,a = some ⟨q,0,none⟩ ∧ c = n ∧ w.heap.size ≤ q ∧ RArr w' q 32 256 n (bkF L))
theorem img_w {G S I J:Int} {P:PlanD} {w:World} {e:Ending} {w':World} (h:ImgPost G S I J P w e w'):ImgW w e w':=by
 obtain ⟨hb,h⟩:=h
 refine ⟨hb,?_⟩
 rcases h with ⟨-,rfl⟩ | ⟨x,q,hx,-,-,-,-,-,rfl,hq,hr,hy⟩
 ·exact ⟨none,0,0,fun _ _ => 0,rfl,⟨none,0,rfl,fun h => absurd h (Nat.lt_irrefl _)⟩,fun _ => zero_byt,Nat.zero_le _,fun h => absurd h (Nat.lt_irrefl _)⟩
 ·exact ⟨some ⟨q,0,none⟩,x.n,x.n,P.img x,rfl,imv_of hr,hy,hx.n_le,fun _ => ⟨q,rfl,rfl,hq,hr⟩⟩
structure BiS (w:World) (p q:Nat) (cs:Array Value) (n:Nat) (L:Nat → Nat → Int) (W:World):Prop where
 im:RArr W q 32 256 n (bkF L)
 su:At W p 47 cs
 bel:Below w.heap.size w W
 lq:w.heap.size ≤ q
section
variable {w:World} {p q:Nat} {cs:Array Value} {n:Nat} {L L':Nat → Nat → Int} {W W':World}
theorem BiS.below (h:BiS w p q cs n L W) (hb:Below W.heap.size W W'):BiS w p q cs n L W':=⟨h.im.below hb,h.su.below hb h.su.lt,h.bel.trans (hb.mono h.bel.size),h.lq⟩
theorem BiS.only (h:BiS w p q cs n L W) (ho:Only q W W') (hr:RArr W' q 32 256 n (bkF L')):BiS w p q cs n L' W':=by
 obtain ⟨c,hc,_⟩:=h.im.blk
 exact ⟨hr,h.su.only ho (At.unlike h.su hc (by decide)),h.bel.trans (ho.below h.lq),h.lq⟩
theorem BiS.geo {G S I J O:Int} (h:BiS w p q (scells G S I J O) n L W):W.rangeAt p 0 (gcells G S I J).toList:=fun k v hk => by
 match k,hk with
 | 0,hk => injection hk with hk;subst hk;exact h.su.cell (i:=0) rfl
 | 1,hk => injection hk with hk;subst hk;exact h.su.cell (i:=1) rfl
 | 2,hk => injection hk with hk;subst hk;exact h.su.cell (i:=2) rfl
 | 3,hk => injection hk with hk;subst hk;exact h.su.cell (i:=3) rfl
 | k + 4,hk => cases hk
end
theorem foldO_same {σ:Type} {f f':Nat → σ → Option σ} {Q:σ → Prop} {n:Nat} {a z:σ} (h:foldO f n a = some z) (hz:Q z) (hs:∀ k y z,k < n → f k y = some z → Q z → Q y ∧ f' k y = some z):Q a ∧ foldO f' n a = some z:=by
 induction n generalizing z with
 | zero => injection h with h;subst h;exact ⟨hz,rfl⟩
 | succ n ih =>
  rw [foldO] at h
  cases hy:foldO f n a with
  | none => rw [hy] at h;cases h
  | some y =>
   rw [hy] at h
   obtain ⟨q1,q2⟩:=hs n y z (by omega) h hz
   obtain ⟨r1,r2⟩:=ih hy q1 fun k y z hk => hs k y z (by omega)
   exact ⟨r1,by rw [foldO,r2];exact q2⟩
namespace Im
variable {x:Im}
theorem ptrF_same {L':Nat → Nat → Int} {b:Nat} (hL:∀ c,c ≠ b → L' c = x.L c) {t:Nat} (ht:t ≠ 0):∀ (l p first en:Nat) (o o':Nat → Nat),x.ptrF t l p first en o = some o' → o' b = 0 → o b = 0 ∧ Im.ptrF { x with L:=L' } t l p first en o = some o'
 | 0,p,first,en,o,o',h,h0 => by
  refine ⟨?_,h⟩
  rw [ptrF] at h
  split at h
  ·injection h with h;exact h ▸ h0
  split at h
  ·injection h with h
   subst h
   unfold updN at h0
   split at h0
   ·exact absurd h0 ht
   ·exact h0
  ·cases h
 | l + 1,p,first,en,o,o',h,h0 => by
  rw [ptrF] at h ⊢
  by_cases hp:p = 0
  ·rw [if_pos hp] at h ⊢
   injection h with h
   subst h
   exact ⟨h0,rfl⟩
  rw [if_neg hp] at h ⊢
  by_cases hc:first < min en 65536 ∧ x.data p = true ∧ o p = 0
  ·rw [if_pos hc] at h
   rw [if_pos (show first < min en 65536 ∧ Im.data { x with L:=L' } p = true ∧ o p = 0 from hc)]
   have key:=fun (w:Nat → Nat) (hw:∀ k,w k = x.wrd p k) => foldO_same (f':=fun k o => Im.ptrF { x with L:=L' } t l (w k) (first + k * spn l) en o) (Q:=fun o => o b = 0) h h0 fun k y z hk hy hz => by rw [hw k];exact ptrF_same hL ht l _ _ _ y z hy hz
   have h1:=(key _ fun _ => rfl).1
   have hpb:p ≠ b:=fun e => by
    subst e
    unfold updN at h1
    rw [if_pos rfl] at h1
    exact ht h1
   refine ⟨?_,(key (fun k => Im.wrd { x with L:=L' } p k) fun k => ?_).2⟩
   ·unfold updN at h1
    rwa [if_neg (Ne.symm hpb)] at h1
   ·unfold wrd;show (g32 (L' p) _).toNat = _;rw [hL p hpb]
  ·rw [if_neg hc] at h;cases h
theorem ptrF_up {t:Nat} (ht:t ≠ 0) {l p first en:Nat} {o o':Nat → Nat} (h:x.ptrF t l p first en o = some o') {b:Nat} (h0:o b ≠ 0):o' b ≠ 0:=fun e => h0 (ptrF_same (L':=x.L) (b:=b) (fun _ _ => rfl) ht l p first en o o' h e).1
theorem trees_same {L':Nat → Nat → Int} {b:Nat} (hL:∀ c,c ≠ b → L' c = x.L c) (hi:∀ t,Im.ino { x with L:=L' } t = x.ino t) {m:Nat → Bool} {o:Nat → Nat} (h:x.trees m = some o) (h0:o b = 0):Im.trees { x with L:=L' } m = some o:=by
 unfold trees at h ⊢
 refine (foldO_same (Q:=fun o => o b = 0) h h0 fun t y z ht hy hz => ?_).2
 unfold treeF at hy ⊢
 rw [hi]
 by_cases hk:(x.ino (t + 1)).kind = 0
 ·rw [if_pos hk] at hy ⊢
  injection hy with hy
  subst hy
  exact ⟨hz,rfl⟩
 ·rw [if_neg hk] at hy ⊢
  have e:Im.en { x with L:=L' } m (t + 1) = x.en m (t + 1):=by unfold en;rw [hi]
  rw [e]
  exact foldO_same (Q:=fun o => o b = 0) hy hz fun q y z hq hy hz => ptrF_same hL (by omega) _ _ _ _ y z hy hz
def okO (x:Im) (o:Nat → Nat):Nat → Nat → Prop
 | 0,p => p = 0 ∨ o p ≠ 0
 | l + 1,p => p = 0 ∨ (o p ≠ 0 ∧ ∀ k,k < 64 → okO x o l (x.wrd p k))
theorem okO.up {o o':Nat → Nat} (h:∀ b,o b ≠ 0 → o' b ≠ 0):∀ {l p:Nat},x.okO o l p → x.okO o' l p
 | 0,p,k => k.elim .inl fun k => .inr (h p k)
 | l + 1,p,k => k.elim .inl fun k => .inr ⟨h p k.1,fun j hj => okO.up h (k.2 j hj)⟩
theorem okO.own {o:Nat → Nat} {l p:Nat} (h:x.okO o l p) (h0:p ≠ 0):o p ≠ 0:=by
 cases l with
 | zero => exact h.resolve_left h0
 | succ l => exact (h.resolve_left h0).1
theorem foldO_up {σ:Type} {R:σ → σ → Prop} (hr:∀ a,R a a) (ht:∀ a b c,R a b → R b c → R a c) {f:Nat → σ → Option σ} {n:Nat} {a z:σ} (h:foldO f n a = some z) (hs:∀ k y z,k < n → f k y = some z → R y z) {k:Nat} (hk:k ≤ n):∃ y,foldO f k a = some y ∧ R y z:=by
 induction n generalizing z with
 | zero =>
  obtain rfl:k = 0:=by omega
  exact ⟨a,rfl,by injection h with h;subst h;exact hr _⟩
 | succ n ih =>
  by_cases e:k = n + 1
  ·subst e;exact ⟨z,h,hr _⟩
  rw [foldO] at h
  cases hy:foldO f n a with
  | none => rw [hy] at h;cases h
  | some y =>
   rw [hy] at h
   obtain ⟨y',e1,e2⟩:=ih hy (fun k y z hk => hs k y z (by omega)) (by omega)
   exact ⟨y',e1,ht _ _ _ e2 (hs n y z (by omega) h)⟩
def Up (o o':Nat → Nat):Prop:=∀ b,o b ≠ 0 → o' b ≠ 0
theorem Up.refl (o:Nat → Nat):Up o o:=fun _ h => h
theorem Up.trans (a b c:Nat → Nat) (h:Up a b) (k:Up b c):Up a c:=fun _ hb => k _ (h _ hb)
theorem foldO_upAt {f:Nat → (Nat → Nat) → Option (Nat → Nat)} {n:Nat} {a z:Nat → Nat} (h:foldO f n a = some z) (hs:∀ k y z,k < n → f k y = some z → Up y z) {k:Nat} (hk:k < n):∃ y y',f k y = some y' ∧ Up y' z:=by
 obtain ⟨y,e1,_⟩:=foldO_up (R:=Up) Up.refl Up.trans h hs (k:=k) (by omega)
 obtain ⟨y',e3,e4⟩:=foldO_up (R:=Up) Up.refl Up.trans h hs (k:=k + 1) hk
 rw [foldO,e1] at e3
 exact ⟨y,y',e3,e4⟩
theorem ptrF_okO {t:Nat} (ht:t ≠ 0):∀ (l p first en:Nat) (o o':Nat → Nat),x.ptrF t l p first en o = some o' → x.okO o' l p
 | 0,p,first,en,o,o',h => by
  rw [ptrF] at h
  by_cases hp:p = 0
  ·exact .inl hp
  rw [if_neg hp] at h
  split at h
  ·injection h with h
   subst h
   exact .inr (by unfold updN;rw [if_pos rfl];exact ht)
  ·cases h
 | l + 1,p,first,en,o,o',h => by
  rw [ptrF] at h
  by_cases hp:p = 0
  ·exact .inl hp
  rw [if_neg hp] at h
  split at h
  ·have hup:∀ k y z,k < 64 → x.ptrF t l (x.wrd p k) (first + k * spn l) en y = some z → Up y z:=fun k y z _ hy b hb => ptrF_up ht hy hb
   obtain ⟨y,e1,e2⟩:=foldO_up (R:=Up) Up.refl Up.trans h hup (k:=0) (by omega)
   injection e1 with e1
   refine .inr ⟨e2 p (by rw [← e1];unfold updN;rw [if_pos rfl];exact ht),fun k hk => ?_⟩
   obtain ⟨y,y',e3,e4⟩:=foldO_upAt h hup hk
   exact (ptrF_okO ht l _ _ _ y y' e3).up e4
  ·cases h
theorem trees_okO {m:Nat → Bool} {o:Nat → Nat} (h:x.trees m = some o) {t:Nat} (h1:1 ≤ t) (h2:t ≤ x.ni) (hk:(x.ino t).kind ≠ 0):∀ q,q < 11 → x.okO o (lvl q) ((x.ino t).p q).toNat:=by
 intro q hq
 have hupT:∀ s y z,s < x.ni → x.treeF m (s + 1) y = some z → Up y z:=fun s y z _ hy => by
  unfold treeF at hy
  split at hy
  ·injection hy with hy;exact hy ▸ Up.refl _
  ·obtain ⟨y',e1,e2⟩:=foldO_up (R:=Up) Up.refl Up.trans hy (fun k y z _ hy b hb => ptrF_up (by omega) hy hb) (k:=0) (by omega)
   injection e1 with e1
   exact e1 ▸ e2
 unfold trees at h
 obtain ⟨y,y',e1,e2⟩:=foldO_upAt h hupT (k:=t - 1) (by omega)
 rw [show t - 1 + 1 = t by omega] at e1
 unfold treeF at e1
 rw [if_neg hk] at e1
 obtain ⟨z,z',e3,e4⟩:=foldO_upAt e1 (fun k y z _ hy b hb => ptrF_up (by omega) hy hb) hq
 exact (ptrF_okO (by omega) _ _ _ _ z z' e3).up (Up.trans _ _ _ e4 e2)
theorem way_same {L':Nat → Nat → Int} {b:Nat} (hL:∀ c,c ≠ b → L' c = x.L c) {o:Nat → Nat} (h0:o b = 0):∀ (ws:List Nat) {l p:Nat},x.okO o l p → ws.length ≤ l → (∀ k,k ∈ ws → k < 64) → ws.foldl (Im.step { x with L:=L' }) p = ws.foldl x.step p ∧ x.okO o (l - ws.length) (ws.foldl x.step p)
 | [],l,p,h,_,_ => ⟨rfl,h⟩
 | k :: ws,l,p,h,hl,hk => by
  rw [List.length_cons] at hl ⊢
  obtain ⟨l,rfl⟩:∃ l',l = l' + 1:=⟨l - 1,by omega⟩
  rw [show l + 1 - (ws.length + 1) = l - ws.length by omega,List.foldl_cons,List.foldl_cons]
  have e:Im.step { x with L:=L' } p k = x.step p k:=by
   unfold step
   split
   ·rfl
   ·rename_i hp
    have hne:p ≠ b:=fun e => by subst e;exact h.own hp h0
    unfold wrd
    show (g32 (L' p) _).toNat = _
    rw [hL p hne]
  rw [e]
  refine way_same hL h0 ws ?_ (by omega) fun k' hk' => hk k' (List.mem_cons_of_mem _ hk')
  unfold step
  split
  ·cases l with
   | zero => exact .inl rfl
   | succ l => exact .inl rfl
  ·rename_i hp
   exact (h.resolve_left hp).2 k (hk k (List.mem_cons_self ..))
theorem blk_same {L':Nat → Nat → Int} {b:Nat} (hL:∀ c,c ≠ b → L' c = x.L c) (hi:∀ t,Im.ino { x with L:=L' } t = x.ino t) {o:Nat → Nat} (h0:o b = 0) {t i:Nat} (h:∀ q,q < 11 → x.okO o (lvl q) ((x.ino t).p q).toNat) (hi9:i < 65536):Im.blk { x with L:=L' } t i = x.blk t i ∧ (x.blk t i ≠ 0 → o (x.blk t i) ≠ 0):=by
 unfold blk
 rw [hi]
 obtain ⟨e1,e2⟩:=way_same hL h0 (wayB i) (h (wayP i) (wayP_lt i)) (Nat.le_of_eq (wayB_len i)) (wayB_lt hi9)
 exact ⟨e1,fun h => e2.own h⟩
theorem come1_same {L':Nat → Nat → Int} (hi:∀ t,Im.ino { x with L:=L' } t = x.ino t) (c:(Nat → Bool) × List Nat) (t:Nat):Im.come1 { x with L:=L' } c t = x.come1 c t:=by
 unfold come1
 rw [hi]
theorem popF_same {L':Nat → Nat → Int} (hi:∀ t,Im.ino { x with L:=L' } t = x.ino t) (u:Nat → List Nat):∀ (f:Nat) (c:(Nat → Bool) × List Nat),Im.popF { x with L:=L' } u f c = x.popF u f c
 | 0,c => rfl
 | f + 1,(c,[]) => rfl
 | f + 1,(c,t :: r) => by
  rw [popF,popF]
  have:(Im.come1 { x with L:=L' }) = x.come1:=by funext c t;exact come1_same hi c t
  rw [this]
  exact popF_same hi u f _
theorem good_free {m:Nat → Bool} {o:Nat → Nat} {u:Nat → List Nat} (h:Good x m o u) (hM:∀ t,1 ≤ t → t ≤ x.ni → (x.ino t).size.toNat / 256 ≤ 65536) (hs:x.own ≤ x.s) (hi:4 ≤ x.i) (h4:x.i % 4 = 0) {b:Nat} (hb:x.data b = true) (h0:o b = 0) {L':Nat → Nat → Int} (hL:∀ c,c ≠ b → L' c = x.L c):Good { x with L:=L' } m o u:=by
 have hs2:2 ≤ x.s:=by have:=hs;unfold own at this;omega
 have hb2:=hb
 unfold data at hb2
 rw [Bool.and_eq_true,Bool.and_eq_true,decide_eq_true_eq,decide_eq_true_eq,decide_eq_true_eq] at hb2
 have hz:L' 0 = x.L 0:=hL 0 (by omega)
 have hone:L' 1 = x.L 1:=hL 1 (by omega)
 have hst:∀ k d,d < 2 → L' (x.st k + d) = x.L (x.st k + d):=fun k d hd => hL _ (Ne.symm (data_ne hb hd hs2))
 have hst0:∀ k,L' (x.st k) = x.L (x.st k):=fun k => hst k 0 (by decide)
 have hib:∀ t,x.ib t ≠ b:=fun t e => by
  rw [← e] at hb2
  obtain ⟨_,_,h3⟩:=hb2
  have hr:(t - 1) % x.i < x.i:=Nat.mod_lt _ (by omega)
  unfold ib st at h3
  unfold own at h3 hs
  rw [show 2 + x.j + (t - 1) / x.i * x.s + 2 + (t - 1) % x.i / 4 - (2 + x.j) = 2 + (t - 1) % x.i / 4 + x.s * ((t - 1) / x.i) by rw [Nat.mul_comm];omega,Nat.add_mul_mod_self_left,Nat.mod_eq_of_lt (by omega)] at h3
  omega
 have hino:∀ t,Im.ino { x with L:=L' } t = x.ino t:=fun t => by
  unfold ino
  show (if 1 ≤ t ∧ t ≤ x.ni then getIno (L' (x.ib t)) (x.ia t) else Ino.nil) = _
  rw [hL _ (hib t)]
 refine ⟨?_,?_,fun k hk => ?_,fun t h1 h2 => ?_,by rw [hino];exact h.c5,by rw [orph_congr hino];exact h.orph,fun t h1 h2 => ?_,trees_same hL hino h.trees h0,fun k hk => ?_,?_,fun t h1 h2 => ?_,fun t ht => ?_,fun k hk => ?_⟩
 ·have:=h.c1
  unfold ck1 at this ⊢
  show (decide (0 < x.n) && (readE (L' 0) == 0 && ((x.n:Int) == nBl (Go.Proofs.YtphamecphmbipaaGreatDoor.hd (L' 0) 4) (Go.Proofs.YtphamecphmbipaaGreatDoor.hd (L' 0) 5) (Go.Proofs.YtphamecphmbipaaGreatDoor.hd (L' 0) 6) (Go.Proofs.YtphamecphmbipaaGreatDoor.hd (L' 0) 7)))) = true
  rw [hz];exact this
 ·have:=h.c2
  unfold ck2 at this ⊢
  show rdOk x.g x.s x.i x.j (L' 1) = true
  rw [hone];exact this
 ·have:=h.c3 k hk
  unfold ck3 at this ⊢
  show (allS (bt (L' (x.st k))) 0 x.own && (allS (bt (L' (x.st k))) x.s 2048 && allS (bt (L' (x.st k + 1))) x.i 2048)) = true
  rw [hst0,hst k 1 (by decide)];exact this
 ·have:=h.c4 t h1 h2
  unfold ck4 used at this ⊢
  show (getErr (L' (x.ib t)) (x.ia t) == 0 && (bt (L' (x.st ((t - 1) / x.i) + 1)) ((t - 1) % x.i) == ((Im.ino { x with L:=L' } t).kind != 0))) = true
  rw [hL _ (hib t),hst _ 1 (by decide),hino];exact this
 ·have:=h.c6 t h1 h2
  unfold ck6 at this ⊢
  rw [hino];exact this
 ·have:=h.c8 k hk
  unfold ck8 at this ⊢
  show allB (fun d => bt (L' (x.st k)) (x.own + d) == (o (x.st k + (x.own + d)) != 0)) (x.s - x.own) = true
  rw [hst0];exact this
 ·have hd:=h.dirs
  unfold dirs at hd ⊢
  rw [← hd]
  refine foldO_congr (fun t ht u' => ?_) _
  rw [hino]
  by_cases hk:(x.ino (t + 1)).kind = 2
  ·rw [if_pos hk,if_pos hk]
   have htr:=trees_okO h.trees (t:=t + 1) (by omega) (by replace ht:t < x.ni:=ht;omega) (by rw [hk];decide)
   have hsz:=hM (t + 1) (by omega) (by replace ht:t < x.ni:=ht;omega)
   have e:Im.dirF { x with L:=L' } (t + 1) = x.dirF (t + 1):=by
    unfold dirF
    rw [hino]
    refine foldO_congr (fun q hq r => ?_) _
    obtain ⟨e1,e2⟩:=blk_same hL hino h0 htr (i:=q) (by omega)
    unfold dirB'
    rw [e1]
    by_cases hbz:x.blk (t + 1) q = 0
    ·rw [if_neg (fun h => h.1 hbz),if_neg (fun h => h.1 hbz)]
    ·have hne:x.blk (t + 1) q ≠ b:=fun e => e2 hbz (e ▸ h0)
     show (if x.blk (t + 1) q ≠ 0 ∧ dirB (L' (x.blk (t + 1) q)) = true then foldO (Im.slotF { x with L:=L' } (L' (x.blk (t + 1) q))) 8 r else none) = _
     rw [hL _ hne]
     split
     ·refine foldO_congr (fun k hk r => ?_) _
      unfold slotF
      rw [hino]
      rfl
     ·rfl
   rw [e]
  ·rw [if_neg hk,if_neg hk]
 ·have:=h.c10 t h1 h2
  unfold ck10 at this ⊢
  rw [hino];exact this
 ·have:=h.c11 t ht
  unfold ck11 at this ⊢
  have e:Im.reach { x with L:=L' } u = x.reach u:=by unfold reach;exact popF_same hino u _ _
  rw [hino,e];exact this
 ·have:=h.c12 k hk
  unfold ck12 free freeI nDir at this ⊢
  show ((x.s:Int) - (cntB (bt (L' (x.st k))) x.s:Nat) == rB (L' 1) k && ((x.i:Int) - (cntB (bt (L' (x.st k + 1))) x.i:Nat) == rI (L' 1) k && (((cntB (fun b => (Im.ino { x with L:=L' } (k * x.i + b + 1)).kind == 2) x.i:Nat)):Int) == rD (L' 1) k)) = true
  have e:(fun b => (Im.ino { x with L:=L' } (k * x.i + b + 1)).kind == 2) = fun b => (x.ino (k * x.i + b + 1)).kind == 2:=by funext b;rw [hino]
  rw [hst0,hst k 1 (by decide),hone,e];exact this
end Im
theorem free_exam {L:Nat → Nat → Int} {n:Nat} (h0:(Im.of L n).exam.1 = 0) (hok:(Im.of L n).Ok) {b:Nat} (hb:(Im.of L n).data b = true) (ho:(Im.of L n).exam.2 b = 0) (z:Nat → Int):(Im.of (updN L b z) n).exam.1 = 0:=by
 obtain ⟨h1,h2,h3,h4,h5,h6,h7,h8,h9,h10,h11⟩:=mayN hok.may
 obtain ⟨m,o,u,hg,he⟩:=Im.good_of h0
 rw [he] at ho
 have hb2:=MS.data_lt hb
 have e0:updN L b z 0 = L 0:=by unfold updN;rw [if_neg (by omega)]
 rw [of_upd n e0]
 have hG:=Im.good_free hg (fun t a b => by
  have hm:=Im.ck4_may (hg.c4 t a b) a b
  have:(Im.ino (Im.of L n) t).size ≤ 16777216:=by
   rcases hm with h | h | h
   ·omega
   ·exact h.2.2.2.2
   ·exact h.2.2.2.1
  omega) (by unfold Im.own;omega) h5 h7 hb ho (L':=updN L b z) (fun c hc => if_neg hc)
 rw [Im.exam_good hG]
structure ByS20 (w:World) (p q g r:Nat) (cs:Array Value) (n:Nat) (L:Nat → Nat → Int) (o:Nat → Nat) (rb rf:Int) (rm:Bool) (W:World):Prop where
 b:BiS w p q cs n L W
 o:RArr W g 3 1 n (ownF o)
 r:At W r 40 (rwcB rb rf rm)
theorem ByS20.below {w:World} {p q g r:Nat} {cs:Array Value} {n:Nat} {L:Nat → Nat → Int} {o:Nat → Nat} {rb rf:Int} {rm:Bool} {W W':World} (h:ByS20 w p q g r cs n L o rb rf rm W) (hb:Below W.heap.size W W'):ByS20 w p q g r cs n L o rb rf rm W' :=
 ⟨h.b.below hb,h.o.below hb,h.r.below hb h.r.lt⟩
theorem info_row15 (b f:Int) (m:Bool):(Tryz.prog.info? 40).map (·.size) = some (rwcB b f m).size:=by kernel_rfl
set_option maxRecDepth 100000 in
set_option maxHeartbeats 8000000 in
theorem checkBytes_walk (G S I J:Int) (d:PlAd) (P:PlanD) (hB:P.Bd) (α:Int) (hα:-9223372036854775808 ≤ α ∧ α ≤ 9223372036854775807) (rb rf:Int) (rm:Bool) (hrf:0 ≤ rf ∧ rf < 256) (w:World) (hT:Tab w) (hP:PlnR w.heap.size d P w) :
  Calls Tryz.prog 7 #[plVal G S I J d P,.int .i64 α,.agg (rwcB rb rf rm)] w fun e w' => e = .returned (.bool true) ∧ Below w.heap.size w w':=by
 obtain ⟨W0,hW0⟩:∃ W0,W0 = (w.alloc (.cells (plRow G S I J d P) 27)).alloc (.cells (rwcB rb rf rm) 40):=⟨_,rfl⟩
 have hb0:Below w.heap.size w W0:=by rw [hW0];exact ((Below.refl _ _).alloc (Nat.le_refl _) _).alloc (by simp) _
 have hs0:W0.heap.size = w.heap.size + 2:=by rw [hW0];simp
 have hx0:At W0 w.heap.size 27 (plRow G S I J d P):=by rw [hW0];exact (At.new _ _ _).alloc _
 have hr0:At W0 (w.heap.size + 1) 40 (rwcB rb rf rm):=by
  have:=At.new (w.alloc (.cells (plRow G S I J d P) 27)) 40 (rwcB rb rf rm)
  rw [World.size_alloc] at this
  rw [hW0];exact this
 have HF0:Hid (∀ W,Below W0.heap.size W0 W → At W w.heap.size 27 (plRow G S I J d P) ∧ At W (w.heap.size + 1) 40 (rwcB rb rf rm) ∧ Below w.heap.size w W ∧ Tab W ∧ PlnR W.heap.size d P W):=fun W h => by
  have hb:=hb0.trans (h.mono hb0.size)
  exact ⟨hx0.below h hx0.lt,hr0.below h hr0.lt,hb,hT.below hb (Nat.le_refl _),(hP.below hb).wide hb.size⟩
 have HTA:Hid (∀ W,Below w.heap.size w W → Tab W):=fun W h => hT.below h (Nat.le_refl _)
 have HBD:=Lib.hid hB
 have HRF:=Lib.hid hrf
 have HHA:=Lib.hid hα
 have HW0:=Lib.hid hW0
 have HS0:=Lib.hid hs0
 clear hb0 hs0 hx0 hr0 hB hP hT hrf hα hW0
 go_enter Tryz.func7,Tryz.ntmps7
 go_wp2_with fail
 rw [← HW0.out]
 refine (awake20_any _ (HF0.out _ (Below.refl _ _)).2.2.2.1).mono ?_
 rintro e w1 ⟨rfl,hb1⟩
 have HB1:=Lib.hid hb1
 have hbx:=(HF0.out _ hb1).1
 clear hb1
 go_wp2_with (first | (refine wp_loadAtG rfl 27 (.tmp 3) rfl _ _ _ rfl hbx Tryz.underlying27 rfl (info_plan _ _ _ _ _ _) ?_))
 refine (great_any20 G S I J d P HBD.out w1 (HF0.out _ HB1.out).2.2.2.2).mono ?_
 rintro e w2 ⟨⟨bg,rfl,hsm⟩,hb2⟩
 have HB2:Hid (Below W0.heap.size W0 w2):=HB1.out.trans (hb2.mono HB1.out.size)
 have HSM:=Lib.hid hsm
 clear HB1 hb2 hbx hsm
 cases bg with
 | true =>
  go_wp2_with fail
  go_ret
  exact ⟨rfl,(HF0.out _ HB2.out).2.2.1⟩
 | false =>
  have HS:=Lib.hid (HSM.out rfl)
  have hbx:=(HF0.out _ HB2.out).1
  clear HSM
  go_wp2_with (first | (refine wp_loadAtG rfl 27 (.tmp 3) rfl _ _ _ rfl hbx Tryz.underlying27 rfl (info_plan _ _ _ _ _ _) ?_))
  refine ((image20_any G S I J d P HBD.out HS.out w2 (HF0.out _ HB2.out).2.2.2.2).mono fun e w' h => img_w h).mono ?_
  rintro e w3 ⟨hb3,a,n,c,L,rfl,him,hy,hn9,hq⟩
  have HIM:=Lib.hid him
  have HY:=Lib.hid hy
  have HQ:=Lib.hid hq
  have HB3:Hid (Below W0.heap.size W0 w3):=HB2.out.trans (hb3.mono HB2.out.size)
  have HB2S:=Lib.hid HB2.out.size
  clear him hy HB2 hb3 hbx HS hq
  go_wp2_with fail
  refine (ckOwners_any (.slice a n c) n L HY.out (by omega) w3 (HF0.out _ HB3.out).2.2.2.1 HIM.out).mono ?_
  rintro e w4 ⟨hb4,hO⟩
  have HB4:Hid (Below W0.heap.size W0 w4):=HB3.out.trans (hb4.mono HB3.out.size)
  have HQ4:Hid (0 < n → ∃ q,a = some ⟨q,0,none⟩ ∧ c = n ∧ w2.heap.size ≤ q ∧ RArr w4 q 32 256 n (bkF L)):=fun h => by
   obtain ⟨q,e1,e2,e3,e4⟩:=HQ.out h
   exact ⟨q,e1,e2,e3,e4.below hb4⟩
  clear HIM HB3 hb4 HQ
  rcases hO with ⟨hr,rfl⟩ | ⟨hr,hok,g,rfl,hg,ho⟩
  ·have HF:=Lib.hid (HF0.out _ HB4.out).2.2.1
   clear hr HQ4 HB4
   go_wp2_with fail
   go_ret
   exact ⟨rfl,HF.out⟩
  ·have hn0:0 < n:=by
    rcases Nat.eq_zero_or_pos n with h | h
    ·subst h;rw [exam_none] at hr;cases hr
    ·exact h
   obtain ⟨q,rfl,rfl,hq2,hrq⟩:=HQ4.out hn0
   have HOK:=Lib.hid hok
   have HR:=Lib.hid hr
   have HRQ:=Lib.hid hrq
   have HO:=Lib.hid ho
   have HQL:Hid (w.heap.size ≤ q):=by have:=HB2S.out;have:=HS0.out;show _ ≤ _;omega
   have q0:((c:Int) == 0) = false:=by simp;omega
   clear HQ4 hok hr hrq hq2 ho hg
   by_cases hα0:α < 0
   ·have HF:=Lib.hid (HF0.out _ HB4.out).2.2.1
    go_wp2_with fail
    go_ret
    exact ⟨rfl,HF.out⟩
   obtain ⟨v,rfl⟩:∃ v:Nat,α = (v:Int):=⟨α.toNat,by omega⟩
   clear hα0
   by_cases hvn:c ≤ v
   ·have HF:=Lib.hid (HF0.out _ HB4.out).2.2.1
    have q1:decide ((c:Int) ≤ (v:Int)) = true:=decide_eq_true (by omega)
    go_wp2_with fail
    go_ret
    exact ⟨rfl,HF.out⟩
   have hv:v < c:=by omega
   have hv':(v:Int) < (c:Int):=by omega
   clear hvn
   go_wp2_with fail
   refine (ckImage_any (.slice (some ⟨q,0,none⟩) c c) c L HY.out (by omega) w4 (HF0.out _ HB4.out).2.2.2.1 (imv_of HRQ.out)).mono ?_
   rintro e w5 ⟨hC,hb5⟩
   rcases hC with ⟨h,-⟩ | ⟨-,-,rfl⟩
   ·exact absurd HR.out h
   have HB5:Hid (Below W0.heap.size W0 w5):=HB4.out.trans (hb5.mono HB4.out.size)
   have HRQ5:=Lib.hid (HRQ.out.below hb5)
   have HO5:=Lib.hid (HO.out.below hb5)
   clear HB4 HRQ HO hb5
   obtain ⟨x,hx⟩:∃ x,x = Im.of L c:=⟨_,rfl⟩
   have HXE:=Lib.hid hx
   rw [← hx] at HO5 ⊢
   have HOK2:Hid x.Ok:=by show x.Ok;rw [hx];exact HOK.out
   have hxn:x.n = c:=by rw [hx];rfl
   clear hx HOK
   obtain ⟨o,ho⟩:∃ o,o = x.exam.2:=⟨_,rfl⟩
   rw [← ho] at HO5
   have HOE:=Lib.hid ho
   clear ho
   have hA0:At (w5.alloc (.cells (scells 0 0 0 0 0) 47)) w5.heap.size 47 (scells 0 0 0 0 0):=At.new _ _ _
   have hzs:=zero_super
   have HBA:Hid (Below w5.heap.size w5 (w5.alloc (.cells (scells 0 0 0 0 0) 47))):=(Below.refl _ _).alloc (Nat.le_refl _) _
   go_wp2_with (first | (refine wp_storeAt rfl 47 (.tmp 9) (.tmp 38) rfl w5.heap.size (scells x.g x.s x.i x.j x.o) (scells 0 0 0 0 0) rfl rfl hA0 info_super rfl (all_s _ _ _ _ _) ?_))
   intro w6 hA6 ho6
   have HB6:Hid (Below w5.heap.size w5 w6):=HBA.out.trans (ho6.below (Nat.le_refl _))
   have ST:Hid (ByS20 w w5.heap.size q g (w.heap.size + 1) (scells x.g x.s x.i x.j x.o) c L o rb rf rm w6):=by
    have hb:=HB5.out.trans (HB6.out.mono HB5.out.size)
    exact ⟨⟨HRQ5.out.below HB6.out,hA6,(HF0.out _ hb).2.2.1,HQL.out⟩,HO5.out.below HB6.out,(HF0.out _ hb).2.1⟩
   obtain ⟨pb,hpb⟩:∃ pb,pb = w5.heap.size:=⟨_,rfl⟩
   rw [← hpb] at ST ⊢
   have hrg:=ST.out.b.geo
   clear hA0 hA6 ho6 HB6 HRQ5 HO5 HB5 HBA hpb
   go_wp2_with (first | (refine wp_loadMid rfl 23 (.tmp 41) rfl pb 0 (gcells x.g x.s x.i x.j).toList _ rfl hrg Tryz.underlying23 rfl (by kernel_rfl) ?_))
   refine (what2_any x.g x.s x.i x.j v HHA.out.1 HHA.out.2 w6).mono ?_
   rintro e w7 ⟨K,A,B,rfl,hwh,hb7⟩
   have ST7:=Lib.hid (ST.out.below hb7)
   have hdat:=what_data HOK2.out (by rw [hxn];exact hv) hwh
   clear ST hb7 hrg hwh
   cases hd:x.data v with
   | false =>
    have q7:(K != 7) = true:=by
     rw [hd] at hdat
     rw [bne,hdat];rfl
    go_wp2_with fail
    go_ret
    exact ⟨rfl,ST7.out.b.bel⟩
   | true =>
    have q7:(K != 7) = false:=by
     rw [hd] at hdat
     rw [bne,hdat];rfl
    have HD:=Lib.hid hd
    have co:w7.cell? ⟨g,v,none⟩ = some (.int .i64 ((o v:Nat):Int)):=by
     have:=ST7.out.o.seg v hv 0 _ rfl
     rwa [Nat.zero_add,Nat.mul_one,Nat.add_zero] at this
    obtain ⟨ov,hov⟩:∃ ov,ov = o v:=⟨_,rfl⟩
    rw [← hov] at co
    have HOV:=Lib.hid hov
    clear hd hdat hov
    by_cases hov0:ov = 0
    rotate_left
    ·have q8:((ov:Int) != 0) = true:=by simp;omega
     go_wp2_with fail
     go_ret
     exact ⟨rfl,ST7.out.b.bel⟩
    subst hov0
    have hr:=ST7.out.r
    go_wp2_with (first | (refine wp_loadAtG rfl 40 (.tmp 5) rfl _ _ _ rfl hr Tryz.underlying40 rfl (info_row15 _ _ _) ?_))
    refine (block15b_any rb rf HRF.out rm w7).mono ?_
    rintro e w8 ⟨rfl,hb8⟩
    have ST8:=Lib.hid (ST7.out.below hb8)
    clear ST7 hb8 hr co
    obtain ⟨z,hz⟩:∃ z,z = rowB rf rm:=⟨_,rfl⟩
    have HZB:Hid (Byt z):=by show Byt z;rw [hz];exact rowB_byt HRF.out rm
    rw [← hz]
    clear hz
    have hth:w8.there q (v * 256) (Ks .u8 256 z).length:=by rw [Ks_length];exact ST8.out.b.im.there hv
    go_wp2_with (first | (refine wp_storeMid rfl 32 (.tmp 61) (.tmp 60) rfl q (v * 256) (Ks .u8 256 z) rfl rfl hth (by rw [Ks_length];exact info_block) (Ks_oneL _ _ _) ?_))
    intro w9 hw9
    obtain ⟨L1,hL1⟩:∃ L1,L1 = updN L v z:=⟨_,rfl⟩
    have ST9:Hid (BiS w pb q (scells x.g x.s x.i x.j x.o) c L1 w9):=by
     obtain ⟨k1,k2⟩:=ST8.out.b.im.set hv (vs:=Ks .u8 256 z) (by simp [Ks]) (bkF_len _)
     rw [← hw9.out] at k1 k2
     refine ST8.out.b.only k2 (k1.congr fun j _ => ?_)
     rw [hL1];unfold bkF updN;split <;> rfl
    have HE:Hid ((Im.of L1 c).exam.1 = 0):=by
     show _ = _
     rw [hL1]
     have e1:=HXE.out
     have hd:=HD.out
     have ho:=HOV.out
     rw [HOE.out] at ho
     rw [e1] at hd ho
     have hok:=HOK2.out
     rw [e1] at hok
     exact free_exam HR.out hok hd ho.symm z
    have HY1:Hid (∀ b,Byt (L1 b)):=fun b => by
     rw [hL1];unfold updN;split
     ·exact HZB.out
     ·exact HY.out b
    clear ST8 hw9 hth hL1
    go_wp2_with fail
    have hrr:=ckRule_any (.slice (some ⟨q,0,none⟩) c c) c L1 HY1.out (by omega) w9 (HTA.out _ ST9.out.bel) (imv_of ST9.out.im)
    rw [HE.out] at hrr
    refine hrr.mono ?_
    rintro e w10 ⟨rfl,hb10⟩
    have ST10:=Lib.hid (ST9.out.below hb10)
    clear ST9 hb10 hrr
    go_wp2_with fail
    refine (ckOwners_any (.slice (some ⟨q,0,none⟩) c c) c L1 HY1.out (by omega) w10 (HTA.out _ ST10.out.bel) (imv_of ST10.out.im)).mono ?_
    rintro e w11 ⟨hb11,hO⟩
    have HF:Hid (Below w.heap.size w w11):=ST10.out.bel.trans (hb11.mono ST10.out.bel.size)
    rcases hO with ⟨h,-⟩ | ⟨-,-,g2,rfl,-,-⟩
    ·exact absurd HE.out h
    clear ST10 hb11
    go_wp2_with fail
    go_ret
    exact ⟨rfl,HF.out⟩
end Go.Proofs.YtphamecphmbipaaGreatDoor
