/- Texts of this claim, merged. -/
import Derived.Test.YtphamecphmbipaaGreatDoorK42
set_option maxRecDepth 100000
set_option maxHeartbeats 16000000

namespace Go.Proofs.YtphamecphmbipaaGreatDoor
open Go.RowKit
set_option linter.unusedVariables false
theorem OldR.wide {B B':Nat} {W:World} {a:Option Addr} {m n:Nat} {f:Nat → List Value} (h:OldR B W a m n f) (hB:B ≤ B'):OldR B' W a m n f:=⟨h.1,fun b off e hn => Nat.lt_of_lt_of_le (h.2 b off e hn) hB⟩
theorem PlnR.wide {B B':Nat} {d:PlAd} {P:PlanD} {W:World} (h:PlnR B d P W) (hB:B ≤ B'):PlnR B' d P W:=⟨h.f.wide hB,fun i hi => (h.b i hi).wide hB,fun i hi => (h.n i hi).wide hB,h.c.wide hB⟩
theorem At.plan {w:World} (G S I J:Int) (d:PlAd) (P:PlanD):At (w.alloc (.cells (plRow G S I J d P) 27)) w.heap.size 27 (plRow G S I J d P):=At.new _ _ _
def ImgW (w:World) (e:Ending) (w':World):Prop :=
 Below w.heap.size w w' ∧ ∃ (a:Option Addr) (n c:Nat) (L:Nat → Nat → Int),e = .returned (.slice a n c) ∧ ImV w' (.slice a n c) n L ∧ (∀ b,Byt (L b)) ∧ n ≤ 2048 ∧ (0 < n → ∃ q,a = some ⟨q,0,none⟩ ∧ c = n ∧ w.heap.size ≤ q ∧ RArr w' q 32 256 n (bkF L))
theorem img_w {G S I J:Int} {P:PlanD} {w:World} {e:Ending} {w':World} (h:ImgPost G S I J P w e w'):ImgW w e w':=by
 obtain ⟨hb,h⟩:=h
 refine ⟨hb,?_⟩
 rcases h with ⟨-,rfl⟩ | ⟨x,q,hx,-,-,-,-,-,rfl,hq,hr,hy⟩
 ·exact ⟨none,0,0,fun _ _ => 0,rfl,⟨none,0,rfl,fun h => absurd h (Nat.lt_irrefl _)⟩,fun _ => zero_byt,Nat.zero_le _,fun h => absurd h (Nat.lt_irrefl _)⟩
 ·exact ⟨some ⟨q,0,none⟩,x.n,x.n,P.img x,rfl,imv_of hr,hy,hx.n_le,fun _ => ⟨q,rfl,rfl,hq,hr⟩⟩
structure BiS (w:World) (p q:Nat) (cs:Array Value) (n:Nat) (L:Nat → Nat → Int) (W:World):Prop where
 im:RArr W q 32 256 n (bkF L)
 su:At W p 47 cs
 bel:Below w.heap.size w W
 lq:w.heap.size ≤ q
section
variable {w:World} {p q:Nat} {cs:Array Value} {n:Nat} {L L':Nat → Nat → Int} {W W':World}
theorem BiS.below (h:BiS w p q cs n L W) (hb:Below W.heap.size W W'):BiS w p q cs n L W':=⟨h.im.below hb,h.su.below hb h.su.lt,h.bel.trans (hb.mono h.bel.size),h.lq⟩
theorem BiS.only (h:BiS w p q cs n L W) (ho:Only q W W') (hr:RArr W' q 32 256 n (bkF L')):BiS w p q cs n L' W':=by
 obtain ⟨c,hc,_⟩:=h.im.blk
 exact ⟨hr,h.su.only ho (At.unlike h.su hc (by decide)),h.bel.trans (ho.below h.lq),h.lq⟩
theorem BiS.geo {G S I J O:Int} (h:BiS w p q (scells G S I J O) n L W):W.rangeAt p 0 (gcells G S I J).toList:=fun k v hk => by
 match k,hk with
 | 0,hk => injection hk with hk;subst hk;exact h.su.cell (i:=0) rfl
 | 1,hk => injection hk with hk;subst hk;exact h.su.cell (i:=1) rfl
 | 2,hk => injection hk with hk;subst hk;exact h.su.cell (i:=2) rfl
 | 3,hk => injection hk with hk;subst hk;exact h.su.cell (i:=3) rfl
 | k + 4,hk => cases hk
end
namespace Im
variable {x:Im}
end Im
namespace Im
variable {x:Im}
end Im
theorem geo_inode {x:Im} (hx:x.Ok) (t:Nat) (h1:1 ≤ t) (h2:t ≤ x.ni) (w:World):Calls Tryz.prog 20 #[gval x.g x.s x.i x.j,.int .i64 (t:Int)] w fun e w' => e = .returned (.tuple #[.int .i64 ((x.ib t:Nat):Int),.int .i64 ((x.ia t:Nat):Int),.bool true]) ∧ Below w.heap.size w w':=by
 have h:=geoInode_yes x.g x.s x.i x.j (t - 1) hx.may (by show t - 1 < x.g * x.i;have:t ≤ x.g * x.i:=h2;omega) w
 rw [show ((t - 1:Nat):Int) + 1 = (t:Int) by omega] at h
 exact h
theorem ib_lt {x:Im} (hx:x.Ok) {t:Nat} (h1:1 ≤ t) (h2:t ≤ x.ni):x.ib t < x.n:=by
 obtain ⟨k1,k2,k3,k4,k5,k6,k7,k8,k9,k10,k11⟩:=mayN hx.may
 have hγ:(t - 1) / x.i < x.g:=(Nat.div_lt_iff_lt_mul (by omega)).2 (by have:t ≤ x.g * x.i:=h2;omega)
 have hr:(t - 1) % x.i < x.i:=Nat.mod_lt _ (by omega)
 have:=hx.st hγ (d:=2 + (t - 1) % x.i / 4) (by omega)
 unfold Im.ib
 rwa [Nat.add_assoc]
section
variable {w:World} {p q g fq B:Nat} {da:Option Addr} {dc:Nat} {x:Im} {n:Nat} {L:Nat → Nat → Int} {o F:Nat → Nat} {W W':World}
end
namespace Im
variable {x:Im}
theorem slotF_mem {z:Nat → Int} {k:Nat} {r r':List (List UInt8) × List Nat} (h:x.slotF z k r = some r') (hb:∀ d ∈ r.2,d ≤ x.ni ∧ (x.ino d).kind ≠ 0):∀ d ∈ r'.2,d ≤ x.ni ∧ (x.ino d).kind ≠ 0:=by
 unfold slotF at h
 split at h
 ·injection h with h;subst h;exact hb
 split at h
 ·rename_i hc
  injection h with h;subst h
  intro d hd
  rcases List.mem_append.1 hd with hd | hd
  ·exact hb d hd
  ·rw [List.mem_singleton.1 hd];exact hc.2
 ·cases h
theorem dirF_mem {t:Nat} {r:List (List UInt8) × List Nat} (h:x.dirF t = some r):∀ d ∈ r.2,d ≤ x.ni ∧ (x.ino d).kind ≠ 0:=by
 unfold dirF at h
 refine foldO_inv (P:=fun k (r:List (List UInt8) × List Nat) => ∀ d ∈ r.2,d ≤ x.ni ∧ (x.ino d).kind ≠ 0) h (fun d hd => by cases hd) fun k a b hk ha hb => ?_
 unfold dirB' at hb
 split at hb
 ·exact foldO_inv (P:=fun j (r:List (List UInt8) × List Nat) => ∀ d ∈ r.2,d ≤ x.ni ∧ (x.ino d).kind ≠ 0) hb ha fun j a' b' _ ha' hb' => slotF_mem hb' ha'
 ·cases hb
theorem dirs_at {u:Nat → List Nat} (h:x.dirs = some u) (t:Nat):(u t = [] ∧ (x.ino t).kind ≠ 2) ∨ (1 ≤ t ∧ t ≤ x.ni ∧ (x.ino t).kind = 2 ∧ ∃ r,x.dirF t = some r ∧ u t = r.2):=by
 have key:=foldO_inv (P:=fun n (u:Nat → List Nat) => ∀ t,(u t = [] ∧ ((x.ino t).kind ≠ 2 ∨ n < t)) ∨ (1 ≤ t ∧ t ≤ n ∧ (x.ino t).kind = 2 ∧ ∃ r,x.dirF t = some r ∧ u t = r.2)) h (fun t => by
  by_cases e:t = 0
  ·subst e
   exact .inl ⟨rfl,.inl (by rw [show x.ino 0 = Ino.nil by unfold ino;rw [if_neg (by omega)]];decide)⟩
  ·exact .inl ⟨rfl,.inr (by omega)⟩) (fun k a b hk ha hb t => ?_) t
 ·rcases key with ⟨h1,h2 | h2⟩ | h2
  ·exact .inl ⟨h1,h2⟩
  ·refine .inl ⟨h1,?_⟩
   rw [show x.ino t = Ino.nil by unfold ino;rw [if_neg (by omega)]];decide
  ·exact .inr h2
 ·by_cases hk2:(x.ino (k + 1)).kind = 2
  ·rw [if_pos hk2] at hb
   cases hd:x.dirF (k + 1) with
   | none => rw [hd] at hb;cases hb
   | some r =>
    rw [hd] at hb
    injection hb with hb
    subst hb
    unfold updN
    dsimp only
    by_cases e:t = k + 1
    ·rw [if_pos e]
     exact .inr ⟨by omega,by omega,e ▸ hk2,r,e ▸ hd,rfl⟩
    ·rw [if_neg e]
     rcases ha t with ⟨h1,h2 | h2⟩ | ⟨h1,h2,h3⟩
     ·exact .inl ⟨h1,.inl h2⟩
     ·exact .inl ⟨h1,.inr (by omega)⟩
     ·exact .inr ⟨h1,by omega,h3⟩
  ·rw [if_neg hk2] at hb
   injection hb with hb
   subst hb
   rcases ha t with ⟨h1,h2 | h2⟩ | ⟨h1,h2,h3⟩
   ·exact .inl ⟨h1,.inl h2⟩
   ·by_cases e:t = k + 1
    ·exact .inl ⟨h1,.inl (e ▸ hk2)⟩
    ·exact .inl ⟨h1,.inr (by omega)⟩
   ·exact .inr ⟨h1,by omega,h3⟩
theorem good_lists {m:Nat → Bool} {o:Nat → Nat} {u:Nat → List Nat} (h:Good x m o u):Lists x u:=by
 refine ⟨fun c h1 h2 hk => ?_,?_,fun p c hc => ?_,fun p hp => ?_⟩
 ·have:=h.c10 c (by omega) h2
  unfold ck10 at this
  rw [if_neg (by omega),if_pos hk] at this
  exact of_decide_eq_true this
 ·have:=h.c10 1 (Nat.le_refl _) (kind_le (u:=u) h.c5).2
  unfold ck10 at this
  rw [if_pos rfl] at this
  exact of_decide_eq_true this
 ·rcases dirs_at h.dirs p with ⟨h1,_⟩ | ⟨_,_,_,r,h1,h2⟩
  ·rw [h1] at hc;cases hc
  ·rw [h2] at hc
   have:=dirF_mem h1 c hc
   refine ⟨?_,this⟩
   by_cases e:c = 0
   ·rw [e,show x.ino 0 = Ino.nil by unfold ino;rw [if_neg (by omega)]] at this
    exact absurd rfl this.2
   ·omega
 ·rcases dirs_at h.dirs p with ⟨h1,_⟩ | ⟨_,h1,_⟩
  ·exact absurd h1 hp
  ·exact h1
theorem slots_lst {σ:Type} {z:Nat → Int} (g:Nat → σ → Option σ):∀ (k:Nat) (r r':List (List UInt8) × List Nat),foldO (x.slotF z) k r = some r' → ∃ l,r'.2 = r.2 ++ l ∧ ∀ s,lstO g l s = foldO (fun k s => if dI z k = 0 then some s else g (dI z k).toNat s) k s
 | 0,r,r',h => by
  injection h with h;subst h
  exact ⟨[],by simp,fun s => rfl⟩
 | k + 1,r,r',h => by
  rw [foldO] at h
  cases hy:foldO (x.slotF z) k r with
  | none => rw [hy] at h;cases h
  | some y =>
   rw [hy] at h
   obtain ⟨l,h1,h2⟩:=slots_lst g k r y hy
   replace h:x.slotF z k y = some r':=h
   unfold slotF at h
   by_cases h0:dI z k = 0
   ·rw [if_pos h0] at h
    injection h with h;subst h
    refine ⟨l,h1,fun s => ?_⟩
    rw [foldO,h2]
    cases foldO (fun k s => if dI z k = 0 then some s else g (dI z k).toNat s) k s with
    | none => rfl
    | some s1 => exact (if_pos h0).symm
   ·rw [if_neg h0] at h
    split at h
    ·injection h with h;subst h
     refine ⟨l ++ [(dI z k).toNat],by dsimp only;rw [h1,List.append_assoc],fun s => ?_⟩
     rw [lstO_app,foldO,h2]
     cases foldO (fun k s => if dI z k = 0 then some s else g (dI z k).toNat s) k s with
     | none => rfl
     | some s1 =>
      show (g (dI z k).toNat s1).bind (lstO g []) = if dI z k = 0 then some s1 else g (dI z k).toNat s1
      rw [if_neg h0]
      cases g (dI z k).toNat s1 <;> rfl
    ·cases h
theorem dir_lst {σ:Type} (g:Nat → σ → Option σ) {t:Nat}:∀ (n:Nat) (r r':List (List UInt8) × List Nat),foldO (x.dirB' t) n r = some r' → ∃ l,r'.2 = r.2 ++ l ∧ (∀ i,i < n → x.blk t i ≠ 0 ∧ dirB (x.L (x.blk t i)) = true) ∧ ∀ s,lstO g l s = foldO (fun i s => foldO (fun k s => if dI (x.L (x.blk t i)) k = 0 then some s else g (dI (x.L (x.blk t i)) k).toNat s) 8 s) n s
 | 0,r,r',h => by
  injection h with h;subst h
  exact ⟨[],by simp,fun i hi => by omega,fun s => rfl⟩
 | n + 1,r,r',h => by
  rw [foldO] at h
  cases hy:foldO (x.dirB' t) n r with
  | none => rw [hy] at h;cases h
  | some y =>
   rw [hy] at h
   obtain ⟨l,h1,h2,h3⟩:=dir_lst g n r y hy
   replace h:x.dirB' t n y = some r':=h
   unfold dirB' at h
   split at h
   ·rename_i hc
    obtain ⟨l2,g1,g2⟩:=slots_lst g 8 y r' h
    refine ⟨l ++ l2,by rw [g1,h1,List.append_assoc],fun i hi => ?_,fun s => ?_⟩
    ·by_cases e:i = n
     ·exact e ▸ hc
     ·exact h2 i (by omega)
    ·rw [lstO_app,foldO,h3]
     congr 1
     funext s
     exact g2 s
   ·cases h
end Im
def wkC (x:Im) (q mq l:Nat):Array Value:=#[.slice (some ⟨q,0,none⟩) x.n x.n,.int .i64 (x.g:Int),.int .i64 (x.s:Int),.int .i64 (x.i:Int),.int .i64 (x.j:Int),.slice (some ⟨mq,0,none⟩) (x.ni + 1) (x.ni + 1),.int .i64 (l:Int)]
structure WtR (p q mq l:Nat) (x:Im) (W:World):Prop where
 im:RArr W q 32 256 x.n (bkF x.L)
 a:At W p 72 (wkC x q mq l)
theorem WtR.below {p q mq l:Nat} {x:Im} {W W':World} (h:WtR p q mq l x W) (hb:Below W.heap.size W W'):WtR p q mq l x W':=⟨h.im.below hb,h.a.below hb h.a.lt⟩
theorem WtR.geo {p q mq l:Nat} {x:Im} {W:World} (h:WtR p q mq l x W):W.rangeAt p 1 (gcells x.g x.s x.i x.j).toList:=fun k v hk => by
 match k,hk with
 | 0,hk => injection hk with hk;subst hk;exact h.a.cell (i:=1) rfl
 | 1,hk => injection hk with hk;subst hk;exact h.a.cell (i:=2) rfl
 | 2,hk => injection hk with hk;subst hk;exact h.a.cell (i:=3) rfl
 | 3,hk => injection hk with hk;subst hk;exact h.a.cell (i:=4) rfl
 | k + 4,hk => cases hk
theorem walkIno_any {x:Im} (hok:x.Ok) (h4:∀ t,1 ≤ t → t ≤ x.ni → x.ck4 t = true) (p q mq l t:Nat) (h1:1 ≤ t) (h2:t ≤ x.ni) (w:World) (h:WtR p q mq l x w) :
  Calls Tryz.prog 25 #[.pointer (some ⟨p,0,none⟩),.int .i64 (t:Int)] w fun e w' => e = .returned (x.ino t).val ∧ Below w.heap.size w w':=by
 have hib:=ib_lt hok h1 h2
 have hia:x.ia t ≤ 192:=by unfold Im.ia;have:(t - 1) % x.i % 4 < 4:=Nat.mod_lt _ (by decide);omega
 have hck:getErr (x.L (x.ib t)) (x.ia t:Nat) = 0 ∧ x.ino t = getIno (x.L (x.ib t)) (x.ia t:Nat):=by
  have h:=h4 t h1 h2
  unfold Im.ck4 at h
  rw [Bool.and_eq_true] at h
  refine ⟨beq_iff_eq.1 h.1,?_⟩
  unfold Im.ino
  rw [if_pos ⟨h1,h2⟩]
 have HINO:Hid (∀ W,Calls Tryz.prog 20 #[gval x.g x.s x.i x.j,.int .i64 (t:Int)] W fun e w' => e = .returned (.tuple #[.int .i64 ((x.ib t:Nat):Int),.int .i64 ((x.ia t:Nat):Int),.bool true]) ∧ Below W.heap.size W w'):=fun W => geo_inode hok t h1 h2 W
 have HGET:Hid (∀ W,Calls Tryz.prog 21 #[bval (x.L (x.ib t)),.int .i64 ((x.ia t:Nat):Int)] W fun e w' => e = .returned (.tuple #[(x.ino t).val,.int .i64 0]) ∧ Below W.heap.size W w'):=fun W => by
  have h:=inoGet_any (x.L (x.ib t)) (hok.byt _) ((x.ia t:Nat):Int) W (by omega) (by omega)
  rwa [← hck.2,hck.1] at h
 have hn9:=hok.n_le
 obtain ⟨ib,hibE⟩:∃ ib,ib = x.ib t:=⟨_,rfl⟩
 obtain ⟨ia,hiaE⟩:∃ ia,ia = x.ia t:=⟨_,rfl⟩
 obtain ⟨y,hy⟩:∃ y,y = x.ino t:=⟨_,rfl⟩
 rw [← hibE] at HINO hib HGET
 rw [← hiaE] at HINO hia HGET
 rw [← hy] at HGET ⊢
 have hib':(ib:Int) < (x.n:Int):=by omega
 have hb1:Below w.heap.size w (w.alloc (.cells Ino.nil.arr 63)):=(Below.refl _ _).alloc (Nat.le_refl _) _
 have ST1:=Lib.hid (h.below hb1)
 have HB1:=Lib.hid hb1
 have HR1:=Lib.hid (InoAt.new w .nil)
 have hrg:=ST1.out.geo
 have hzi:=zero_ino
 clear h hibE hiaE hy hck hok h4 hb1
 go_enter Tryz.func25,Tryz.ntmps25
 go_wp2_with (first | (refine wp_loadMid rfl 23 (.tmp 13) rfl p 1 (gcells x.g x.s x.i x.j).toList _ rfl hrg Tryz.underlying23 rfl (by kernel_rfl) ?_))
 refine (HINO.out _).mono ?_
 rintro e w2 ⟨rfl,hb2⟩
 have ST2:=Lib.hid (ST1.out.below hb2)
 have HB2:=Lib.hid (HB1.out.trans (hb2.mono HB1.out.size))
 have HR2:=Lib.hid (HR1.out.below hb2 HR1.out.lt)
 have cl:w2.cell? ⟨p,0,none⟩ = some (.slice (some ⟨q,0,none⟩) x.n x.n):=ST2.out.a.cell (i:=0) rfl
 have hrb:w2.rangeAt q (ib * 256) (bkF x.L ib):=by have:=RSeg.range ST2.out.im.seg ib hib;rwa [Nat.zero_add] at this
 clear ST1 HB1 HR1 hrg HINO hb2
 go_wp2_with (first | (refine wp_loadMid rfl 32 (.tmp 26) rfl q (ib * 256) (bkF x.L ib) _ rfl hrb Tryz.underlying32 rfl (by rw [bkF_len];exact info_block) ?_))
 refine (HGET.out w2).mono ?_
 rintro e w3 ⟨rfl,hb3⟩
 have HB3:=Lib.hid (HB2.out.trans (hb3.mono HB2.out.size))
 have HR3:=Lib.hid (HR2.out.below hb3 HR2.out.lt)
 have hnew:=InoAt.new w3 .nil
 clear ST2 HB2 HR2 hrb cl HGET
 go_wp2_with (first | (refine wp_storeIno rfl (.tmp 8) (.tmp 30) rfl w3.heap.size y .nil rfl rfl hnew ?_))
 intro w4 hi4 ho4
 have HB4:=Lib.hid (HB3.out.trans (((Below.refl _ _).alloc (Nat.le_refl _) _).trans (ho4.below (Nat.le_refl _)) |>.mono HB3.out.size))
 have hr4:InoAt w4 w.heap.size 63 .nil:=(HR3.out.alloc _).only ho4 (by have:=HR3.out.lt;omega)
 clear HR3 HB3 hnew ho4
 go_wp2_with (first | (refine wp_loadIno rfl (.tmp 8) rfl w3.heap.size y rfl hi4 ?_) | (refine wp_storeIno rfl (.tmp 4) (.tmp 32) rfl w.heap.size y .nil rfl rfl hr4 ?_))
 intro w5 hi5 ho5
 have HB5:=Lib.hid (HB4.out.trans (ho5.below (Nat.le_refl _)))
 go_wp2_with fail
 exact bodyPost_ret (results_row rfl _ _ w.heap.size _ y.arr (0,0) _ rfl hi5 Tryz.underlying63 rfl (info_ino y)) rfl ⟨rfl,HB5.out⟩
structure WtB (w:World) (p q mq l:Nat) (x:Im) (a:Option Addr) (n:Nat) (f:Nat → List Value) (W:World):Prop where
 s:WtR p q mq l x W
 r:RRow W a 1 n f
 bel:Below w.heap.size w W
theorem WtB.below {w:World} {p q mq l:Nat} {x:Im} {a:Option Addr} {n:Nat} {V:List Nat} {W W':World} (h:WtB w p q mq l x a n (nmF V) W) (hb:Below W.heap.size W W'):WtB w p q mq l x a n (nmF V) W' :=
 ⟨h.s.below hb,h.r.below (fun e => by cases e) hb,h.bel.trans (hb.mono h.bel.size)⟩
theorem walkBlk_any {x:Im} (hx:x.Ok) (p q mq l t i:Nat) (hi:i < 65536) (hT:x.Tree t) (hb:x.blk t i ≠ 0) (w:World) (h:WtR p q mq l x w) :
  Calls Tryz.prog 55 #[.pointer (some ⟨p,0,none⟩),(x.ino t).val,.int .i64 (i:Int)] w fun e w' => e = .returned (.int .i64 ((x.blk t i:Nat):Int)) ∧ Below w.heap.size w w':=by
 have HX:=Lib.hid hx
 have hn9:=hx.n_le
 have HT:=Lib.hid hT
 have HOK:=Lib.hid (Im.ino_ok hx t)
 have HNZ:=Lib.hid hb
 obtain ⟨y,hy⟩:∃ y,y = x.ino t:=⟨_,rfl⟩
 have HYE:=Lib.hid hy
 rw [← hy]
 have hb1:Below w.heap.size w (w.alloc (.cells y.arr 63)):=(Below.refl _ _).alloc (Nat.le_refl _) _
 have ST0:=Lib.hid (h.below hb1)
 have HB0:=Lib.hid hb1
 have HR0:=Lib.hid (InoAt.new w y)
 have HNI:=Lib.hid (info_ino y)
 clear h hx hT hb hb1 hy
 go_enter Tryz.func55,Tryz.ntmps55
 go_wp2_with fail
 refine (pthOf_any i hi _).mono ?_
 rintro e w1 ⟨a,c,rfl,hr1,hb1⟩
 have ST1:Hid (WtB w p q mq l x a (Im.wayB i).length (nmF (Im.wayB i)) w1):=⟨ST0.out.below hb1,hr1,HB0.out.trans (hb1.mono HB0.out.size)⟩
 have HR1:=Lib.hid (HR0.out.below hb1 HR0.out.lt)
 clear ST0 hr1 hb1 HR0 HB0
 have hwl:=Im.wayP_lt i
 have hpt:w1.cell? ⟨w.heap.size,4 + Im.wayP i,none⟩ = some (.int .u32 (y.p (Im.wayP i))):=HR1.out.ptr _ hwl
 have hpb:=HOK.out.p (Im.wayP i)
 have HB:Hid (x.blk t i = (Im.wayB i).foldl x.step ((x.ino t).p (Im.wayP i)).toNat):=rfl
 have HTW:Hid (x.okW (Im.wayB i).length ((x.ino t).p (Im.wayP i)).toNat):=by show _;rw [Im.wayB_len];exact HT.out (Im.wayP i) hwl
 have HLT:=Lib.hid (Im.wayB_lt hi)
 have hwn:(Im.wayB i).length ≤ 3:=by rw [Im.wayB_len];exact lvl_bd hwl
 rw [← HYE.out] at hpb HB HTW
 obtain ⟨W,hW⟩:∃ W,W = Im.wayB i:=⟨_,rfl⟩
 obtain ⟨P,hP⟩:∃ P,P = Im.wayP i:=⟨_,rfl⟩
 obtain ⟨pv,hpv⟩:∃ pv,pv = y.p P:=⟨_,rfl⟩
 rw [← hW] at HB HTW HLT ST1 hwn
 rw [← hP] at HB HTW hpt hpb hwl
 rw [← hpv] at HB HTW hpt hpb
 rw [← hW,← hP]
 have hP11:(P:Int) < 11:=by omega
 clear hW hP hpv HOK hi
 obtain ⟨n,hn⟩:∃ n,n = W.length:=⟨_,rfl⟩
 have HN:=Lib.hid hn
 rw [← hn] at ST1 HTW hwn ⊢
 clear hn HR1 HT HNI
 go_wp2_with fail
 clear hpt
 go_loopw [10,11] (fun v u wr => ∃ k:Nat,k ≤ n ∧ v = .int .u32 (((W.take k).foldl x.step pv.toNat:Nat):Int) ∧ u = .int .i64 (k:Int) ∧ WtB w p q mq l x a n (nmF W) wr) (fun _ u _ => n - (intOf u).toNat)
 case atStart => exact ⟨0,Nat.zero_le _,by rw [List.take_zero,List.foldl_nil,Int.toNat_of_nonneg hpb.1],rfl,ST1.out⟩
 case round =>
  clear ST1
  obtain ⟨k,hk,rfl,rfl,st⟩:=hrel
  have ST:=Lib.hid st
  clear st
  obtain ⟨v,hv⟩:∃ v,v = (W.take k).foldl x.step pv.toNat:=⟨_,rfl⟩
  have HV:=Lib.hid hv
  rw [← hv]
  have HOKV:Hid (v ≠ 0 → v < x.n):=fun h0 => by
   have:=Im.way_ok HTW.out (W.take k) (by rw [List.length_take,← HN.out];omega) (fun j hj => HLT.out j (List.mem_of_mem_take hj))
   rw [← hv] at this
   exact Im.okW.lt this h0
  have hv0:v ≠ 0:=fun h0 => by
   refine HNZ.out ?_
   rw [HB.out,← List.take_append_drop k W,List.foldl_append,← hv,h0]
   exact step_zero x _
  clear hv
  have hvn:=HOKV.out hv0
  have v32:(v:Int) < 4294967296:=by omega
  by_cases hlt:k < n
  ·have hlt':(k:Int) < (n:Int):=by omega
   have k0:(0:Int) ≤ (k:Int):=by omega
   obtain ⟨b',off',ha⟩:∃ b' off',a = some ⟨b',off',none⟩:=by
    rcases ST.out.r with h | ⟨b',off',h,_⟩
    ·omega
    ·exact ⟨b',off',h⟩
   subst ha
   obtain ⟨d,hd⟩:∃ d,d = W.getD k 0:=⟨_,rfl⟩
   have HDE:=Lib.hid hd
   have hdg:W[k]? = some d:=by
    rw [hd,List.getD_eq_getElem?_getD,List.getElem?_eq_getElem (by rw [← HN.out];exact hlt)];rfl
   have hd64:d < 64:=HLT.out d (List.mem_of_getElem? hdg)
   have HNX:Hid ((W.take (k + 1)).foldl x.step pv.toNat = x.step v d):=by
    show _ = _
    rw [List.take_add_one,hdg,List.foldl_append,← HV.out];rfl
   have hcd:∀ y:InW (WtB w p q mq l x (some ⟨b',off',none⟩) n (nmF W)),y.W.cell? ⟨b',off' + k,none⟩ = some (.int .i64 (d:Int)):=fun y => by
    rcases y.h.r with h | ⟨b2,off2,e,h⟩
    ·omega
    ·injection e with e;injection e with e1 e2;subst e1;subst e2
     have:=h k hlt 0 (.int .i64 ((W.getD k 0:Nat):Int)) rfl
     rw [← HDE.out,Nat.mul_one,Nat.add_zero] at this;exact this
   have hcs:∀ y:InW (WtB w p q mq l x (some ⟨b',off',none⟩) n (nmF W)),y.W.cell? ⟨p,0,none⟩ = some (.slice (some ⟨q,0,none⟩) x.n x.n):=fun y => y.h.s.a.cell (i:=0) rfl
   clear hd hdg
   have hvn':(v:Int) < (x.n:Int):=by omega
   have v0:(0:Int) ≤ (v:Int):=by omega
   have HSG:Hid (∀ W',WtB w p q mq l x (some ⟨b',off',none⟩) n (nmF W) W' → Seg W' q (v * 256) 256 (x.L v)):=fun W' h' j hj => by
    have:=h'.s.im.seg v hvn j _ (by show (Ks .u8 256 (x.L v))[j]? = _;exact Ks_get _ _ _ _ hj)
    rwa [Nat.zero_add] at this
   have HE4:Hid ((4 * (d:Int)).toNat = 4 * d):=by show _ = _;omega
   have HW:Hid (g32 (x.L v) (4 * d) = ((x.wrd v d:Nat):Int)):=(Im.wrd_int HX.out v d).1.symm
   have HST:Hid (x.step v d = x.wrd v d):=by show _ = _;unfold Im.step;rw [if_neg hv0]
   have HGT:Hid (∀ W',WtB w p q mq l x (some ⟨b',off',none⟩) n (nmF W) W' → Calls Tryz.prog 51 #[.slice (some ⟨q,v * 256,none⟩) 256 256,.int .i64 (4 * (d:Int))] W' fun e w' => e = .returned (.tuple #[.int .u32 ((x.wrd v d:Nat):Int),.bool true]) ∧ WtB w p q mq l x (some ⟨b',off',none⟩) n (nmF W) w'):=fun W' h' => by
    refine (get32_yes q (v * 256) 256 256 (4 * (d:Int)) (x.L v) W' (by decide) (by omega) (by omega) (HSG.out W' h') (HX.out.byt v)).mono ?_
    rintro e w4 ⟨rfl,rfl⟩
    rw [HE4.out,HW.out]
    exact ⟨rfl,h'⟩
   have HRL:Hid (x.wrd v d = (W.take (k + 1)).foldl x.step pv.toNat):=by show _ = _;rw [HNX.out,HST.out]
   obtain ⟨vw,hvw⟩:∃ z,z = x.wrd v d:=⟨_,rfl⟩
   rw [← hvw] at HGT HRL
   clear hvw hv0 hvn HSG HE4 HW HST HNX HDE
   go_wp2_with fail
   refine wp_region_S (WtB w p q mq l x (some ⟨b',off',none⟩) n (nmF W)) (by kernel_rfl) (by kernel_rfl) (ST.out.below (Below.refl _ _).drew) ?_
   clear ST
   intro hne
   have hsl:=fun W => run_blkAll18 q (v * 256) W
   repeat (first | go_big_quiet_skip | (go_big_quiet_want;go_big_quiet_op;go_big_quiet_on))
   go_big_quiet_want
   go_big_quiet_op
   refine ⟨_,fun s => q_call s (fun W hW => HGT.out W hW),?_⟩
   go_big_quiet_on
   repeat (first | go_big_quiet_skip | (go_big_quiet_want;go_big_quiet_op;go_big_quiet_on))
   refine wpQuiet_nil ?_
   intro w12 h12'
   have ST12:=Lib.hid h12'.out
   clear h12' hne hcd hcs HGT
   go_wp2_with fail
   go_roundw
   case rel => first | exact ⟨k + 1,by omega,by rw [HRL.out],by go_num,ST12.out⟩ | ((repeat apply Exists.intro);refine ⟨?_,rfl⟩;exact ⟨k + 1,by omega,by rw [HRL.out],by go_num,ST12.out⟩)
   case measure => simp [intOf];omega
  ·obtain rfl:k = n:=by omega
   have HF:Hid (x.blk t i = v):=by show _ = _;rw [HB.out,HV.out,HN.out,List.take_length]
   have v64:(v:Int) < 9223372036854775808:=by omega
   go_wp2_with fail
   go_ret
   exact ⟨by rw [HF.out];rfl,ST.out.bel⟩
namespace Im
variable (x:Im)
def gonW (u:Nat → List Nat) (f c:Nat) (s:WkS):Option WkS:=if (x.ino c).kind = 2 then x.dirW u f c (meet c s) else some (meet c s)
def slW (u:Nat → List Nat) (f:Nat) (z:Nat → Int) (k:Nat) (s:WkS):Option WkS:=if dI z k = 0 then some s else x.gonW u f (dI z k).toNat s
def blW (u:Nat → List Nat) (f t i:Nat) (s:WkS):Option WkS:=foldO (x.slW u f (x.L (x.blk t i))) 8 s
variable {x}
theorem dirW_unf {u:Nat → List Nat} {t:Nat} {r:List (List UInt8) × List Nat} (hr:x.dirF t = some r) (hu:u t = r.2) (f:Nat) (s:WkS) :
  x.dirW u (f + 1) t s = if s.left = 0 then none else foldO (x.blW u f t) ((x.ino t).size.toNat / 256) { s with left:=s.left - 1 }:=by
 obtain ⟨l,h1,h2,h3⟩:=dir_lst (x:=x) (fun c s => if (x.ino c).kind = 2 then x.dirW u f c (meet c s) else some (meet c s)) _ _ _ hr
 rw [dirW,hu,h1,List.nil_append,h3]
 rfl
theorem dir_blk {t:Nat} {r:List (List UInt8) × List Nat} (hr:x.dirF t = some r) {i:Nat} (hi:i < (x.ino t).size.toNat / 256):x.blk t i ≠ 0 ∧ dirB (x.L (x.blk t i)) = true:=by
 obtain ⟨l,h1,h2,h3⟩:=dir_lst (x:=x) (σ:=WkS) (fun c s => some s) _ _ _ hr
 exact h2 i hi
theorem dir_slot {t:Nat} {r:List (List UInt8) × List Nat} (hr:x.dirF t = some r) {i:Nat} (hi:i < (x.ino t).size.toNat / 256) {k:Nat} (hk:k < 8) (h0:dI (x.L (x.blk t i)) k ≠ 0) :
  (dI (x.L (x.blk t i)) k).toNat ≤ x.ni ∧ (x.ino (dI (x.L (x.blk t i)) k).toNat).kind ≠ 0:=by
 obtain ⟨a,b,_,h⟩:=foldO_at hr hi
 unfold dirB' at h
 split at h
 ·obtain ⟨a2,b2,_,h⟩:=foldO_at h hk
  unfold slotF at h
  rw [if_neg h0] at h
  split at h
  ·rename_i hc;exact hc.2
  ·cases h
 ·cases h
def Grow (s s':WkS):Prop:=(∀ c,s.met c ≤ s'.met c) ∧ s'.left ≤ s.left
theorem Grow.refl (s:WkS):Grow s s:=⟨fun _ => Nat.le_refl _,Nat.le_refl _⟩
theorem Grow.trans {a b c:WkS} (h:Grow a b) (k:Grow b c):Grow a c:=⟨fun d => Nat.le_trans (h.1 d) (k.1 d),Nat.le_trans k.2 h.2⟩
theorem meet_grow (c:Nat) (s:WkS):Grow s (meet c s):=by
 refine ⟨fun d => ?_,Nat.le_refl _⟩
 rw [meet_met]
 split
 ·rename_i e;rw [e];omega
 ·exact Nat.le_refl _
theorem lstO_grow {g:Nat → WkS → Option WkS} (hg:∀ c s s',g c s = some s' → Grow s s'):∀ (l:List Nat) (s s':WkS),lstO g l s = some s' → Grow s s'
 | [],s,s',h => by injection h with h;exact h ▸ Grow.refl s
 | c :: l,s,s',h => by
  rw [lstO] at h
  cases hc:g c s with
  | none => rw [hc] at h;cases h
  | some s1 =>
   rw [hc] at h
   exact (hg c s s1 hc).trans (lstO_grow hg l s1 s' h)
theorem dirW_grow {u:Nat → List Nat}:∀ (f t:Nat) (s s':WkS),x.dirW u f t s = some s' → Grow s s'
 | 0,t,s,s',h => by cases h
 | f + 1,t,s,s',h => by
  rw [dirW] at h
  split at h
  ·cases h
  ·have h1:Grow s { s with left:=s.left - 1 }:=⟨fun _ => Nat.le_refl _,Nat.sub_le _ _⟩
   refine h1.trans (lstO_grow (fun c a b hab => ?_) _ _ _ h)
   split at hab
   ·exact (meet_grow c a).trans (dirW_grow f c _ _ hab)
   ·injection hab with hab;exact hab ▸ meet_grow c a
theorem gonW_grow {u:Nat → List Nat} {f c:Nat} {s s':WkS} (h:x.gonW u f c s = some s'):Grow s s':=by
 unfold gonW at h
 split at h
 ·exact (meet_grow c s).trans (dirW_grow f c _ _ h)
 ·injection h with h;exact h ▸ meet_grow c s
theorem slW_grow {u:Nat → List Nat} {f k:Nat} {z:Nat → Int} {s s':WkS} (h:x.slW u f z k s = some s'):Grow s s':=by
 unfold slW at h
 split at h
 ·injection h with h;exact h ▸ Grow.refl s
 ·exact gonW_grow h
theorem foldO_grow {g:Nat → WkS → Option WkS} (hg:∀ c s s',g c s = some s' → Grow s s') {n:Nat} {s s':WkS} (h:foldO g n s = some s'):Grow s s' :=
 foldO_inv (P:=fun _ b => Grow s b) h (Grow.refl s) fun k a b _ ha hb => ha.trans (hg k a b hb)
theorem foldO_rest {g:Nat → WkS → Option WkS} (hg:∀ c s s',g c s = some s' → Grow s s'):∀ {n:Nat} {s s':WkS},foldO g n s = some s' → ∀ {k:Nat} {a:WkS},k ≤ n → foldO g k s = some a → Grow a s'
 | 0,s,s',h,k,a,hk,ha => by
  obtain rfl:k = 0:=by omega
  rw [h] at ha;injection ha with ha;exact ha ▸ Grow.refl _
 | n + 1,s,s',h,k,a,hk,ha => by
  by_cases e:k = n + 1
  ·subst e;rw [h] at ha;injection ha with ha;exact ha ▸ Grow.refl _
  ·rw [foldO] at h
   cases hb:foldO g n s with
   | none => rw [hb] at h;cases h
   | some b =>
    rw [hb] at h
    exact (foldO_rest hg hb (k:=k) (by omega) ha).trans (hg n b s' h)
theorem blW_grow {u:Nat → List Nat} {f t i:Nat} {s s':WkS} (h:x.blW u f t i s = some s'):Grow s s':=foldO_grow (fun _ _ _ h => slW_grow h) h
end Im
end Go.Proofs.YtphamecphmbipaaGreatDoor
