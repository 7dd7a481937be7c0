/- Texts of this claim, merged. -/
import Derived.Test.YtphamecphmbipaaGreatDoorK20
import Derived.Test.YtphamecphmbipaaGreatDoorK21
import Derived.Test.YtphamecphmbipaaGreatDoorK23
set_option maxRecDepth 100000
set_option maxHeartbeats 16000000

namespace Go.Proofs.YtphamecphmbipaaGreatDoor
open Go.RowKit
set_option linter.unusedVariables false
theorem dH_congr {b i d b' i' d':Nat → Int}:∀ n,(∀ k,k < n → b k = b' k ∧ i k = i' k ∧ d k = d' k) → dH b i d n = dH b' i' d' n
 | 0,_ => rfl
 | n + 1,h => by
  obtain ⟨h1,h2,h3⟩:=h n (by omega)
  rw [dH,dH,dH_congr n fun k hk => h k (by omega),h1,h2,h3]
theorem descZ_congr {G S I J:Int} {n:Nat} {b i d b' i' d':Nat → Int} (h:∀ k,k < n → b k = b' k ∧ i k = i' k ∧ d k = d' k):descZ G S I J n b i d = descZ G S I J n b' i' d':=by
 unfold descZ descOk
 rw [mayD_congr h,dH_congr n h]
theorem foldO_chain {σ:Type} {f:Nat → σ → Option σ} (s:Nat → σ):∀ n,(∀ k,k < n → f k (s k) = some (s (k + 1))) → foldO f n (s 0) = some (s n)
 | 0,_ => rfl
 | n + 1,h => by rw [foldO,foldO_chain s n fun k hk => h k (by omega)];exact h n (by omega)
theorem updN_id {α:Type} (f:Nat → α) (i:Nat):updN f i (f i) = f:=by
 funext k;unfold updN;split
 ·rename_i e;rw [e]
 ·rfl
theorem turnZ_bZ (P:Nat → Bool) (i:Nat):turnZ (bZ P) i = bZ (setB P i):=by
 unfold turnZ
 rw [show bt (bZ P) = P from funext (bt_bZ P)]
theorem over_twice (z f g:Nat → Int) (k n:Nat):over (over z k n f) k n g = over z k n g:=by
 funext j;unfold over;split <;> rfl
abbrev xA:Im:=mkIm 1 24 8 40
abbrev LA:Nat → Nat → Int:=mkB 1 24 8 40
def nmA:ByteArray:=⟨#[97]⟩
def fA (lk:Int):PF:=⟨1,3000,2,fun k => if k = 0 then 1 else 9,1,fun _ => 0,fun _ => nmA,false,lk⟩
def plA (n:Nat) (lk:Int):PlanD:=⟨n,fun _ => fA lk,0,fun _ => 0,fun _ => 0,fun _ => 0,false⟩
theorem mayA:mayG 1 24 8 40 = true:=by decide
theorem put_root:putZ rootZ (0:Nat) rootI = rootZ:=by
 unfold putZ
 rw [show putOk ((0:Nat):Int) rootI = true from rootOk,if_pos rfl]
 exact over_twice _ _ _ _ _
def IA:Nat → Ino:=updN PlanD.is0.ino 0 ⟨2,1,1,0,fun _ => 0,0⟩
theorem LA_44:LA 44 = rootZ:=by kernel_rfl
theorem LA_42:LA 42 = bZ (mapB 4 24):=mk_st (k:=0) mayA
theorem LA_43:LA 43 = bZ (mapB 1 8):=mk_st1 (k:=0) mayA
theorem img0 (lk:Int):(plA 0 lk).img xA = LA:=by
 have hf:(plA 0 lk).fill xA ((plA 0 lk).isF 0 0) ⟨LA,0⟩ 1 = ⟨IA,⟨LA,0⟩⟩:=by kernel_rfl
 have ht:PlanD.tab xA LA IA 1 = ⟨LA,updN (fun _ => 0) 0 1⟩:=by
  show PlanD.tabF xA IA 0 ⟨LA,fun _ => 0⟩ = _
  unfold PlanD.tabF
  dsimp only
  rw [show xA.ib (0 + 1) = 44 from rfl,show xA.ia (0 + 1) = 0 from rfl,show IA 0 = rootI from rfl,LA_44,put_root,show rootI.kind = 2 from rfl,if_pos (by decide),if_pos rfl,show xA.st (0 / xA.i) + 1 = 43 from rfl,show 0 % xA.i = 0 from rfl,show 0 / xA.i = 0 from rfl]
  have e1:updN LA 44 rootZ = LA:=by rw [← LA_44];exact updN_id _ _
  rw [e1,LA_43,turnZ_bZ]
  have e2:setB (mapB 1 8) 0 = mapB 1 8:=by funext j;unfold setB mapB;split;rename_i e;subst e;rfl;rfl
  rw [e2,← LA_43,updN_id]
  rfl
 show PlanD.headsL xA 0 (PlanD.tab xA ((plA 0 lk).fill xA ((plA 0 lk).isF 0 0) ⟨LA,0⟩ 1).m.L ((plA 0 lk).fill xA ((plA 0 lk).isF 0 0) ⟨LA,0⟩ 1).ino 1) = LA
 rw [hf]
 show PlanD.headsL xA 0 (PlanD.tab xA LA IA 1) = LA
 rw [ht]
 unfold PlanD.headsL
 dsimp only
 funext b
 unfold updN
 by_cases h1:b = 1
 ·subst h1
  rw [if_pos rfl]
  show descZ _ _ _ _ _ _ _ _ = LA 1
  rw [show LA 1 = _ from mkB_1 (g:=1) (s:=24) (i:=8) (j:=40) (by decide)]
  refine descZ_congr fun k hk => ?_
  obtain rfl:k = 0:=by omega
  refine ⟨?_,?_,rfl⟩
  ·show (24:Int) - (cntB (bt (LA 42)) 24:Nat) = _
   rw [LA_42,cntB_low (u:=4) (by decide) (fun q hq => by rw [bt_bZ];unfold mapB;simp;omega)]
   decide
  ·show (8:Int) - (cntB (bt (LA 43)) 8:Nat) = _
   rw [LA_43,cntB_low (u:=1) (by decide) (fun q hq => by rw [bt_bZ];unfold mapB;simp;omega)]
   decide
 ·rw [if_neg h1]
  by_cases h0:b = 0
  ·subst h0;rw [if_pos rfl];exact (mkB_0 (by decide)).symm
  ·rw [if_neg h0]
def yR:Ino:=⟨2,1,1,256,fun q => if q = 0 then 46 else 0,0⟩
def yF (k:Int):Ino:=⟨1,k,1,3000,fun q => if q = 8 then 48 else if q = 1 then 47 else 0,0⟩
def T1 (lk:Int):PlanD.TS:=PlanD.tab xA ((plA 1 lk).fill xA ((plA 1 lk).isF 1 1) ⟨LA,0⟩ 2).m.L ((plA 1 lk).fill xA ((plA 1 lk).isF 1 1) ⟨LA,0⟩ 2).ino 2
theorem img1 (lk:Int):(plA 1 lk).img xA = PlanD.headsL xA 0 (T1 lk):=by kernel_rfl
theorem T42 (lk:Int):(T1 lk).L 42 = turnZ (turnZ (turnZ (turnZ (LA 42) 4) 5) 6) 7:=by kernel_rfl
theorem T43 (lk:Int):(T1 lk).L 43 = turnZ (turnZ (LA 43) 0) 1:=by kernel_rfl
theorem T44 (lk:Int):(T1 lk).L 44 = putZ (putZ (LA 44) (0:Nat) yR) (64:Nat) (yF (IntKind.i64.wrap (lk + 1))):=by kernel_rfl
theorem T45 (lk:Int):(T1 lk).L 45 = fun _ => 0:=by kernel_rfl
theorem T46 (lk:Int):(T1 lk).L 46 = putS (fun _ => 0) 0 (bS 2 nmA):=by kernel_rfl
theorem T48 (lk:Int):(T1 lk).L 48 = over (fun _ => 0) 4 4 (byteOf 49):=by kernel_rfl
theorem Td (lk:Int):(T1 lk).d 0 = 1:=by kernel_rfl
theorem z46_dir:dirB (putS (fun _ => 0) 0 (bS 2 nmA)) = true:=by decide +kernel
theorem z46_slots:allB (fun k => dI (putS (fun _ => 0) 0 (bS 2 nmA)) k == if k = 0 then 2 else 0) 8 = true:=by decide +kernel
theorem z46_name:(dM (putS (fun _ => 0) 0 (bS 2 nmA)) 0).data.toList = [97]:=by decide +kernel
theorem z48_words:allB (fun k => (g32 (over (fun _ => 0) 4 4 (byteOf 49)) (4 * k)).toNat == if k = 1 then 49 else 0) 64 = true:=by decide +kernel
def z44 (k:Int):Nat → Int:=putZ (putZ rootZ (0:Nat) yR) (64:Nat) (yF k)
theorem z44_err {k:Int} (hk:k = 1 ∨ k = 2):getErr (z44 k) 0 = 0 ∧ getErr (z44 k) 64 = 0 ∧ getErr (z44 k) 128 = 0 ∧ getErr (z44 k) 192 = 0:=by
 rcases hk with rfl | rfl <;> decide +kernel
theorem z44_0 {k:Int} (hk:k = 1 ∨ k = 2):(getIno (z44 k) 0).kind = 2 ∧ (getIno (z44 k) 0).size = 256 ∧ (getIno (z44 k) 0).next = 0 ∧ allB (fun q => (getIno (z44 k) 0).p q == if q = 0 then 46 else 0) 11 = true:=by
 rcases hk with rfl | rfl <;> decide +kernel
theorem z44_1 {k:Int} (hk:k = 1 ∨ k = 2):(getIno (z44 k) 64).kind = 1 ∧ (getIno (z44 k) 64).links = k ∧ (getIno (z44 k) 64).size = 3000 ∧ (getIno (z44 k) 64).next = 0 ∧ allB (fun q => (getIno (z44 k) 64).p q == if q = 1 then 47 else if q = 8 then 48 else 0) 11 = true:=by
 rcases hk with rfl | rfl <;> decide +kernel
theorem z44_2 {k:Int} (hk:k = 1 ∨ k = 2):((getIno (z44 k) 128).kind = 0 ∧ (getIno (z44 k) 128).next = 0) ∧ ((getIno (z44 k) 192).kind = 0 ∧ (getIno (z44 k) 192).next = 0):=by
 rcases hk with rfl | rfl <;> decide +kernel
def LB (lk:Int):Nat → Nat → Int:=PlanD.headsL xA 0 (T1 lk)
theorem LBd (lk:Int) (b:Nat) (h0:b ≠ 0) (h1:b ≠ 1):LB lk b = (T1 lk).L b:=by
 unfold LB PlanD.headsL updN
 rw [if_neg h1,if_neg h0]
theorem bits42 (lk:Int):LB lk 42 = bZ (mapB 8 24):=by
 rw [LBd lk 42 (by decide) (by decide),T42,LA_42,turnZ_bZ,turnZ_bZ,turnZ_bZ,turnZ_bZ]
 congr 1
 funext j
 unfold setB mapB
 by_cases h:j < 8
 ·have:j = 0 ∨ j = 1 ∨ j = 2 ∨ j = 3 ∨ j = 4 ∨ j = 5 ∨ j = 6 ∨ j = 7:=by omega
  rcases this with rfl | rfl | rfl | rfl | rfl | rfl | rfl | rfl <;> rfl
 ·rw [if_neg (by omega),if_neg (by omega),if_neg (by omega),if_neg (by omega),decide_eq_false (show ¬ j < 4 by omega),decide_eq_false h]
theorem bits43 (lk:Int):LB lk 43 = bZ (mapB 2 8):=by
 rw [LBd lk 43 (by decide) (by decide),T43,LA_43,turnZ_bZ,turnZ_bZ]
 congr 1
 funext j
 unfold setB mapB
 by_cases h:j < 2
 ·have:j = 0 ∨ j = 1:=by omega
  rcases this with rfl | rfl <;> rfl
 ·rw [if_neg (by omega),if_neg (by omega),decide_eq_false (show ¬ j < 1 by omega),decide_eq_false h]
theorem descOkB:descOk 1 24 8 40 1 (fun _ => 16) (fun _ => 6) (fun _ => 1) = true:=by decide
theorem LB_0 (lk:Int):LB lk 0 = supZ 1 24 8 40 0:=by
 unfold LB PlanD.headsL updN
 rw [if_neg (by decide),if_pos rfl]
 rfl
theorem LB_1 (lk:Int):LB lk 1 = descZ 1 24 8 40 1 (fun _ => 16) (fun _ => 6) (fun _ => 1):=by
 have h42:=bits42 lk
 rw [LBd lk 42 (by decide) (by decide)] at h42
 have h43:=bits43 lk
 rw [LBd lk 43 (by decide) (by decide)] at h43
 unfold LB PlanD.headsL updN
 rw [if_pos rfl]
 refine descZ_congr fun k hk => ?_
 replace hk:k < 1:=hk
 obtain rfl:k = 0:=by omega
 refine ⟨?_,?_,Td lk⟩
 ·show (24:Int) - (cntB (bt ((T1 lk).L 42)) 24:Nat) = _
  rw [h42,cntB_low (u:=8) (by decide) (fun q hq => by rw [bt_bZ];unfold mapB;simp;omega)]
  decide
 ·show (8:Int) - (cntB (bt ((T1 lk).L 43)) 8:Nat) = _
  rw [h43,cntB_low (u:=2) (by decide) (fun q hq => by rw [bt_bZ];unfold mapB;simp;omega)]
  decide
abbrev xB (lk:Int):Im:=⟨LB lk,66,1,24,8,40,0⟩
theorem heads0:readE (supZ 1 24 8 40 0) = 0 ∧ hd (supZ 1 24 8 40 0) 4 = 1 ∧ hd (supZ 1 24 8 40 0) 5 = 24 ∧ hd (supZ 1 24 8 40 0) 6 = 8 ∧ hd (supZ 1 24 8 40 0) 7 = 40 ∧ g32 (supZ 1 24 8 40 0) 16 = 0:=by
 have h:=mk_heads mayA
 rw [mkB_0 (by decide)] at h
 exact h
theorem xB_L (lk:Int):(xB lk).L = LB lk:=rfl
theorem of_xB (lk:Int):Im.of (LB lk) 66 = xB lk:=by
 obtain ⟨hE,e4,e5,e6,e7,e8⟩:=heads0
 unfold Im.of
 rw [LB_0,e4,e5,e6,e7,e8]
 rfl
theorem lkw {lk:Int} (h:lk = 0 ∨ lk = 1):IntKind.i64.wrap (lk + 1) = lk + 1:=by rcases h with rfl | rfl <;> decide
theorem LB_44 {lk:Int} (h:lk = 0 ∨ lk = 1):LB lk 44 = z44 (lk + 1):=by
 rw [LBd lk 44 (by decide) (by decide),T44,LA_44,lkw h];rfl
theorem LB_45 (lk:Int):LB lk 45 = fun _ => 0:=by rw [LBd lk 45 (by decide) (by decide),T45]
theorem xB_at (lk:Int) (t:Nat) (h1:1 ≤ t) (h2:t ≤ 8):(t ≤ 4 → (xB lk).ib t = 44 ∧ (xB lk).ia t = (t - 1) * 64) ∧ (4 < t → (xB lk).ib t = 45 ∧ (xB lk).ia t = (t - 5) * 64):=by
 refine ⟨fun h => ⟨?_,?_⟩,fun h => ⟨?_,?_⟩⟩
 ·show 2 + 40 + (t - 1) / 8 * 24 + 2 + (t - 1) % 8 / 4 = 44;omega
 ·show (t - 1) % 8 % 4 * 64 = _;omega
 ·show 2 + 40 + (t - 1) / 8 * 24 + 2 + (t - 1) % 8 / 4 = 45;omega
 ·show (t - 1) % 8 % 4 * 64 = _;omega
theorem xB_tab {lk:Int} (h:lk = 0 ∨ lk = 1) (t:Nat) (h1:1 ≤ t) (h2:t ≤ 8):getErr (LB lk ((xB lk).ib t)) ((xB lk).ia t) = 0 ∧ (3 ≤ t → ((xB lk).ino t).kind = 0 ∧ ((xB lk).ino t).next = 0) ∧ (t = 1 → (xB lk).ino t = getIno (z44 (lk + 1)) 0) ∧ (t = 2 → (xB lk).ino t = getIno (z44 (lk + 1)) 64):=by
 have hk:lk + 1 = 1 ∨ lk + 1 = 2:=by omega
 obtain ⟨ha,hb⟩:=xB_at lk t h1 h2
 have e1:(xB lk).ino t = getIno (LB lk ((xB lk).ib t)) ((xB lk).ia t):=by unfold Im.ino;rw [if_pos ⟨h1,h2⟩]
 rw [e1]
 have z:=zero_free
 have ze:=zero_get
 have hz:=z44_2 hk
 have he:=z44_err hk
 by_cases h4:t ≤ 4
 ·obtain ⟨a1,a2⟩:=ha h4
  rw [a1,a2,LB_44 h]
  have:t = 1 ∨ t = 2 ∨ t = 3 ∨ t = 4:=by omega
  rcases this with rfl | rfl | rfl | rfl
  ·exact ⟨he.1,fun h => absurd h (by decide),fun _ => rfl,fun h => absurd h (by decide)⟩
  ·exact ⟨he.2.1,fun h => absurd h (by decide),fun h => absurd h (by decide),fun _ => rfl⟩
  ·exact ⟨he.2.2.1,fun _ => hz.1,fun h => absurd h (by decide),fun h => absurd h (by decide)⟩
  ·exact ⟨he.2.2.2,fun _ => hz.2,fun h => absurd h (by decide),fun h => absurd h (by decide)⟩
 ·obtain ⟨a1,a2⟩:=hb (by omega)
  rw [a1,a2,LB_45]
  have:t = 5 ∨ t = 6 ∨ t = 7 ∨ t = 8:=by omega
  rcases this with rfl | rfl | rfl | rfl
  ·exact ⟨ze.1,fun _ => z.1,fun h => absurd h (by decide),fun h => absurd h (by decide)⟩
  ·exact ⟨ze.2.1,fun _ => z.2.1,fun h => absurd h (by decide),fun h => absurd h (by decide)⟩
  ·exact ⟨ze.2.2.1,fun _ => z.2.2.1,fun h => absurd h (by decide),fun h => absurd h (by decide)⟩
  ·exact ⟨ze.2.2.2,fun _ => z.2.2.2,fun h => absurd h (by decide),fun h => absurd h (by decide)⟩
theorem xB_free {lk:Int} (h:lk = 0 ∨ lk = 1) (t:Nat) (h1:t ≠ 1) (h2:t ≠ 2):((xB lk).ino t).kind = 0 ∧ ((xB lk).ino t).next = 0:=by
 by_cases c:1 ≤ t ∧ t ≤ 8
 ·exact (xB_tab h t c.1 c.2).2.1 (by omega)
 ·unfold Im.ino
  rw [if_neg (show ¬ (1 ≤ t ∧ t ≤ (xB lk).ni) from c)]
  exact ⟨rfl,rfl⟩
def o1A:Nat → Nat:=updN (fun _ => 0) 46 1
def o2A:Nat → Nat:=updN o1A 47 2
def o3A:Nat → Nat:=updN o2A 48 2
def o4A:Nat → Nat:=updN o3A 49 2
structure AwB (lk:Int):Prop where
 c1:(xB lk).ck1 = true
 c2:(xB lk).ck2 = true
 c3:∀ k,k < 1 → (xB lk).ck3 k = true
 c4:∀ t,1 ≤ t → t ≤ 8 → (xB lk).ck4 t = true
 c5:((xB lk).ino 1).kind = 2
 orph:(xB lk).orph = some fun _ => false
 c6:∀ t,1 ≤ t → t ≤ 8 → (xB lk).ck6 (fun _ => false) t = true
 trees:(xB lk).trees (fun _ => false) = some o4A
 c8:∀ k,k < 1 → (xB lk).ck8 o4A k = true
 dirs:(xB lk).dirs = some (updN (fun _ => []) 1 [2])
 c10:∀ t,1 ≤ t → t ≤ 8 → t ≠ 2 → (xB lk).ck10 (updN (fun _ => []) 1 [2]) t = true
 c10':(xB lk).ck10 (updN (fun _ => []) 1 [2]) 2 = decide (lk = 0)
 c11:∀ t,t ≤ 8 → (xB lk).ck11 ((xB lk).reach (updN (fun _ => []) 1 [2])) t = true
 c12:∀ k,k < 1 → (xB lk).ck12 k = true
theorem xB_data (lk:Int) (b:Nat):(xB lk).data b = (decide (46 ≤ b) && decide (b < 66)):=by
 have e:(xB lk).data b = (decide (2 + 40 ≤ b) && (decide (b < 66) && decide (2 + 8 / 4 ≤ (b - (2 + 40)) % 24))):=by kernel_rfl
 rw [e]
 by_cases h:46 ≤ b
 ·by_cases h2:b < 66
  ·rw [decide_eq_true h,decide_eq_true h2,decide_eq_true (show 2 + 40 ≤ b by omega),decide_eq_true (show 2 + 8 / 4 ≤ (b - (2 + 40)) % 24 by omega)];rfl
  ·rw [decide_eq_false h2];simp
 ·rw [decide_eq_false h]
  by_cases h2:42 ≤ b
  ·rw [decide_eq_false (show ¬ 2 + 8 / 4 ≤ (b - (2 + 40)) % 24 by omega)];simp
  ·rw [decide_eq_false (show ¬ 2 + 40 ≤ b by omega)];rfl
theorem LB_46 (lk:Int):LB lk 46 = putS (fun _ => 0) 0 (bS 2 nmA):=by rw [LBd lk 46 (by decide) (by decide),T46]
theorem LB_48 (lk:Int):LB lk 48 = over (fun _ => 0) 4 4 (byteOf 49):=by rw [LBd lk 48 (by decide) (by decide),T48]
theorem xB_wrd (lk:Int) {k:Nat} (hk:k < 64):(xB lk).wrd 48 k = if k = 1 then 49 else 0:=by
 have:=(allB_iff _ _).1 z48_words k hk
 have e:(xB lk).wrd 48 k = (g32 (LB lk 48) (4 * k)).toNat:=by kernel_rfl
 rw [e,LB_48]
 exact beq_iff_eq.1 this
theorem ptr_yes (x:Im) (t l p first en:Nat) (o:Nat → Nat) (hp:p ≠ 0) (hc:first < min en 65536 ∧ x.data p = true ∧ o p = 0):x.ptrF t (l + 1) p first en o = foldO (fun k o => x.ptrF t l (x.wrd p k) (first + k * Im.spn l) en o) 64 (updN o p t):=by
 rw [Im.ptrF,if_neg hp,if_pos hc]
theorem ptr_leaf (x:Im) (t p first en:Nat) (o:Nat → Nat) (hp:p ≠ 0) (hc:first < min en 65536 ∧ x.data p = true ∧ o p = 0):x.ptrF t 0 p first en o = some (updN o p t):=by
 rw [Im.ptrF,if_neg hp,if_pos hc]
theorem xB_dirF {lk:Int} (h:lk = 0 ∨ lk = 1):(xB lk).dirF 1 = some ([[97]],[2]):=by
 have hk:lk + 1 = 1 ∨ lk + 1 = 2:=by omega
 obtain ⟨rk,rs,rn,rp⟩:=z44_0 hk
 obtain ⟨fk,fl,fs,fn,fp⟩:=z44_1 hk
 have i1:=(xB_tab h 1 (by decide) (by decide)).2.2.1 rfl
 have i2:=(xB_tab h 2 (by decide) (by decide)).2.2.2 rfl
 rw [← i1] at rk rs rn rp
 rw [← i2] at fk fl fs fn fp
 have hbl:(xB lk).blk 1 0 = 46:=by
  have e:(xB lk).blk 1 0 = (((xB lk).ino 1).p 0).toNat:=by kernel_rfl
  have e0:((xB lk).ino 1).p 0 = 46:=beq_iff_eq.1 ((allB_iff _ _).1 rp 0 (by decide))
  rw [e,e0];rfl
 have e46:(xB lk).L 46 = putS (fun _ => 0) 0 (bS 2 nmA):=(congrFun (xB_L lk) 46).trans (LB_46 lk)
 have hc46:(46:Nat) ≠ 0 ∧ dirB (putS (fun _ => 0) 0 (bS 2 nmA)) = true:=⟨by decide,z46_dir⟩
 have e1:(xB lk).dirF 1 = (xB lk).dirB' 1 0 ([],[]):=by
  unfold Im.dirF
  rw [rs];kernel_rfl
 rw [e1]
 unfold Im.dirB'
 rw [hbl,e46,if_pos hc46]
 have hni:(xB lk).ni = 8:=by kernel_rfl
 refine foldO_chain (n:=8) (fun k => if k = 0 then ([],[]) else ([[97]],[2])) fun k hk => ?_
 have hI:=beq_iff_eq.1 ((allB_iff _ _).1 z46_slots k hk)
 unfold Im.slotF
 rw [hI]
 by_cases d:k = 0
 ·subst d
  have hf2:((xB lk).ino (2:Int).toNat).kind ≠ 0:=by rw [show (2:Int).toNat = 2 from rfl,fk];decide
  rw [if_pos rfl,if_neg (by decide),z46_name,hni,if_pos rfl,if_pos ⟨by simp,by decide,hf2⟩];rfl
 ·rw [if_neg d,if_pos rfl,if_neg d,if_neg (by omega)]
theorem xB_dirs {lk:Int} (h:lk = 0 ∨ lk = 1):(xB lk).dirs = some (updN (fun _ => []) 1 [2]):=by
 have hk:lk + 1 = 1 ∨ lk + 1 = 2:=by omega
 obtain ⟨rk,rs,rn,rp⟩:=z44_0 hk
 obtain ⟨fk,fl,fs,fn,fp⟩:=z44_1 hk
 have i1:=(xB_tab h 1 (by decide) (by decide)).2.2.1 rfl
 have i2:=(xB_tab h 2 (by decide) (by decide)).2.2.2 rfl
 have i3:=xB_free h
 rw [← i1] at rk
 rw [← i2] at fk
 unfold Im.dirs
 refine foldO_chain (n:=8) (fun k => if k = 0 then fun _ => [] else updN (fun _ => []) 1 [2]) fun t ht => ?_
 by_cases a1:t = 0
 ·subst a1
  rw [if_pos (show ((xB lk).ino (0 + 1)).kind = 2 from rk),if_pos rfl,if_neg (show ¬ 0 + 1 = 0 by decide),show (xB lk).dirF (0 + 1) = _ from xB_dirF h];rfl
 ·have hkd:¬ ((xB lk).ino (t + 1)).kind = 2:=by
   by_cases a2:t = 1
   ·subst a2;rw [show 1 + 1 = 2 from rfl,fk];decide
   ·rw [(i3 (t + 1) (by omega) (by omega)).1];decide
  rw [if_neg hkd,if_neg a1,if_neg (by omega)]
theorem awB {lk:Int} (h:lk = 0 ∨ lk = 1):AwB lk:=by
 have hk:lk + 1 = 1 ∨ lk + 1 = 2:=by omega
 obtain ⟨rk,rs,rn,rp⟩:=z44_0 hk
 obtain ⟨fk,fl,fs,fn,fp⟩:=z44_1 hk
 have i1:=(xB_tab h 1 (by decide) (by decide)).2.2.1 rfl
 have i2:=(xB_tab h 2 (by decide) (by decide)).2.2.2 rfl
 have i3:=xB_free h
 rw [← i1] at rk rs rn rp
 rw [← i2] at fk fl fs fn fp
 obtain ⟨hE,e4,e5,e6,e7,e8⟩:=heads0
 have hcnt:∀ t n,Im.cnt (updN (fun _ => ([]:List Nat)) 1 [2]) t n = if 1 < n ∧ t = 2 then 1 else 0:=fun t n => by
  induction n with
  | zero => rfl
  | succ n ih =>
   rw [Im.cnt,ih]
   unfold updN
   by_cases e:n = 1
   ·subst e
    rw [if_pos rfl]
    by_cases e2:t = 2
    ·subst e2;rfl
    ·rw [if_neg (by omega),if_neg (by omega)]
     have:¬ 2 = t:=fun h => e2 h.symm
     simp [this]
   ·rw [if_neg e]
    by_cases e2:1 < n ∧ t = 2
    ·rw [if_pos e2,if_pos ⟨by omega,e2.2⟩];rfl
    ·rw [if_neg e2,if_neg (by omega)];rfl
 refine ⟨?_,?_,?_,?_,rk,?_,?_,?_,?_,?_,?_,?_,?_,?_⟩
 ·unfold Im.ck1
  show (decide (0 < 66) && (readE (LB lk 0) == 0 && ((66:Int) == nBl (hd (LB lk 0) 4) (hd (LB lk 0) 5) (hd (LB lk 0) 6) (hd (LB lk 0) 7)))) = true
  rw [LB_0,hE,e4,e5,e6,e7];exact (by decide:(decide (0 < 66) && (((0:Int) == 0) && ((66:Int) == nBl 1 24 8 40))) = true)
 ·unfold Im.ck2
  show rdOk 1 24 8 40 (LB lk 1) = true
  rw [LB_1]
  exact (desc_back descOkB).1
 ·intro k hk
  obtain rfl:k = 0:=by omega
  have e:(xB lk).ck3 0 = (Im.allS (bt (LB lk 42)) 0 4 && (Im.allS (bt (LB lk 42)) 24 2048 && Im.allS (bt (LB lk 43)) 8 2048)):=by kernel_rfl
  rw [e,bits42,bits43,Bool.and_eq_true,Bool.and_eq_true,Im.allS_iff,Im.allS_iff,Im.allS_iff]
  refine ⟨fun q a b => ?_,fun q a b => ?_,fun q a b => ?_⟩ <;> rw [bt_bZ] <;> unfold mapB <;> simp <;> omega
 ·intro t h1 h2
  unfold Im.ck4
  rw [show getErr ((xB lk).L ((xB lk).ib t)) ((xB lk).ia t) = 0 from (xB_tab h t h1 h2).1]
  have hu:(xB lk).used t = decide (t ≤ 2):=by
   unfold Im.used
   have e1:(t - 1) / 8 = 0:=by omega
   have e2:bt ((xB lk).L ((xB lk).st ((t - 1) / (xB lk).i) + 1)) ((t - 1) % (xB lk).i) = bt (LB lk (2 + 40 + (t - 1) / 8 * 24 + 1)) ((t - 1) % 8):=by kernel_rfl
   rw [e2,e1,show 2 + 40 + 0 * 24 + 1 = 43 from rfl,bits43,bt_bZ]
   unfold mapB
   rw [decide_eq_false (show ¬ 8 ≤ (t - 1) % 8 by omega),Bool.false_and,Bool.or_false]
   exact decide_eq_decide.2 (by omega)
  rw [hu]
  by_cases a1:t = 1
  ·subst a1;rw [rk];rfl
  ·by_cases a2:t = 2
   ·subst a2;rw [fk];rfl
   ·rw [(i3 t a1 a2).1,decide_eq_false (by omega)];rfl
 ·unfold Im.orph
  rw [Im.orpF,if_pos rfl]
 ·intro t h1 h2
  unfold Im.ck6
  by_cases a1:t = 1
  ·subst a1;rw [rn,rk];rfl
  ·by_cases a2:t = 2
   ·subst a2;rw [fn,fl]
    rcases hk with e | e <;> rw [e] <;> simp
   ·rw [(i3 t a1 a2).1,(i3 t a1 a2).2];rfl
 ·unfold Im.trees
  refine foldO_chain (n:=8) (fun k => if k = 0 then fun _ => 0 else if k = 1 then o1A else o4A) fun t ht => ?_
  by_cases a1:t = 0
  ·subst a1
   rw [if_pos rfl,if_neg (by decide),if_pos rfl]
   unfold Im.treeF
   rw [if_neg (by rw [rk];decide)]
   have hen:(xB lk).en (fun _ => false) 1 = 1:=by unfold Im.en;rw [rs];rfl
   rw [hen]
   refine foldO_chain (n:=11) (fun k => if k = 0 then fun _ => 0 else o1A) fun q hq => ?_
   have hp:=beq_iff_eq.1 ((allB_iff _ _).1 rp q hq)
   by_cases c:q = 0
   ·subst c
    rw [hp]
    exact ptr_leaf _ _ _ _ _ _ (by decide) ⟨by decide,by rw [xB_data];rfl,rfl⟩
   ·rw [hp,if_neg c,if_neg c,if_neg (by omega)]
    exact Im.ptrF_zero _ _ _ _ _ _
  by_cases a2:t = 1
  ·subst a2
   rw [if_neg (by decide),if_pos rfl,if_neg (by decide),if_neg (by decide)]
   unfold Im.treeF
   rw [if_neg (by rw [fk];decide)]
   have hen:(xB lk).en (fun _ => false) 2 = 12:=by unfold Im.en;rw [fs];rfl
   rw [hen]
   refine foldO_chain (n:=11) (fun k => if k ≤ 1 then o1A else if k ≤ 8 then o2A else o4A) fun q hq => ?_
   have hp:=beq_iff_eq.1 ((allB_iff _ _).1 fp q hq)
   by_cases c:q = 1
   ·subst c
    rw [hp]
    exact ptr_leaf _ _ _ _ _ _ (by decide) ⟨by decide,by rw [xB_data];rfl,rfl⟩
   by_cases c8:q = 8
   ·subst c8
    rw [hp]
    refine (ptr_yes _ _ _ _ _ _ _ (by decide) ⟨by decide,by rw [xB_data];rfl,rfl⟩).trans ?_
    refine foldO_chain (n:=64) (fun k => if k ≤ 1 then o3A else o4A) fun k hk => ?_
    rw [show ((if (8:Nat) = 1 then (47:Int) else if 8 = 8 then 48 else 0)).toNat = 48 from rfl,xB_wrd lk hk]
    by_cases d:k = 1
    ·subst d
     exact ptr_leaf _ _ _ _ _ _ (by decide) ⟨by decide,by rw [xB_data];rfl,rfl⟩
    ·rw [if_neg d]
     have e:(if k ≤ 1 then o3A else o4A) = (if k + 1 ≤ 1 then o3A else o4A):=by
      by_cases d0:k ≤ 1
      ·rw [if_pos d0,if_pos (by omega)]
      ·rw [if_neg d0,if_neg (by omega)]
     rw [← e]
     exact Im.ptrF_zero _ _ _ _ _ _
   ·rw [hp,if_neg c,if_neg c8]
    have e:(if q ≤ 1 then o1A else if q ≤ 8 then o2A else o4A) = (if q + 1 ≤ 1 then o1A else if q + 1 ≤ 8 then o2A else o4A):=by
     by_cases d0:q ≤ 1
     ·rw [if_pos d0,if_pos (by omega)]
     ·rw [if_neg d0,if_neg (show ¬ q + 1 ≤ 1 by omega)]
      by_cases d1:q ≤ 8
      ·rw [if_pos d1,if_pos (by omega)]
      ·rw [if_neg d1,if_neg (by omega)]
    rw [← e]
    exact Im.ptrF_zero _ _ _ _ _ _
  ·rw [if_neg a1,if_neg a2,if_neg (by omega),if_neg (by omega)]
   unfold Im.treeF
   rw [if_pos (i3 (t + 1) (by omega) (by omega)).1]
 ·intro k hk
  obtain rfl:k = 0:=by omega
  have e:(xB lk).ck8 o4A 0 = allB (fun dd => bt (LB lk 42) (4 + dd) == (o4A (42 + (4 + dd)) != 0)) 20:=by kernel_rfl
  rw [e,allB_iff]
  intro dd hd
  rw [bits42,bt_bZ]
  unfold mapB
  rw [decide_eq_false (show ¬ 24 ≤ 4 + dd by omega),Bool.false_and,Bool.or_false]
  by_cases d4:dd < 4
  ·rw [decide_eq_true (show 4 + dd < 8 by omega)]
   have:dd = 0 ∨ dd = 1 ∨ dd = 2 ∨ dd = 3:=by omega
   rcases this with rfl | rfl | rfl | rfl <;> rfl
  ·rw [decide_eq_false (show ¬ 4 + dd < 8 by omega)]
   have:o4A (42 + (4 + dd)) = 0:=by
    unfold o4A o3A o2A o1A updN
    rw [if_neg (by omega),if_neg (by omega),if_neg (by omega),if_neg (by omega)]
   rw [this];rfl
 ·exact xB_dirs h
 ·intro t h1 h2 h3
  unfold Im.ck10
  rw [hcnt]
  by_cases a1:t = 1
  ·subst a1;rfl
  ·rw [if_neg a1,if_neg (by rw [(i3 t a1 h3).1];decide),if_neg (by rw [(i3 t a1 h3).1];decide)]
 ·unfold Im.ck10
  rw [hcnt,if_neg (by decide),if_neg (by rw [fk];decide),if_pos fk,fl]
  rcases h with rfl | rfl <;> rfl
 ·intro t ht
  have hr:(xB lk).reach (updN (fun _ => []) 1 [2]) = updN (fun _ => false) 1 true:=by
   unfold Im.reach
   rw [Im.popF]
   show Im.popF (xB lk) (updN (fun _ => []) 1 [2]) 9 ((xB lk).come1 (updN (fun _ => false) 1 true,[]) 2) = _
   unfold Im.come1
   rw [if_neg (by rw [fk];decide)]
   rfl
  unfold Im.ck11
  rw [hr]
  by_cases a1:t = 1
  ·subst a1;simp [updN]
  ·by_cases a2:t = 2
   ·subst a2;rw [fk];rfl
   ·rw [(i3 t a1 a2).1];rfl
 ·intro k hk
  obtain rfl:k = 0:=by omega
  obtain ⟨_,_,hr⟩:=desc_back descOkB
  obtain ⟨b1,b2,b3⟩:=hr 0 (by decide)
  have hnd:(xB lk).nDir 0 = 1:=by
   unfold Im.nDir
   refine cntB_low (n:=8) (by decide) fun q hq => ?_
   show (((xB lk).ino (0 * 8 + q + 1)).kind == 2) = _
   by_cases a1:q = 0
   ·subst a1;rw [show 0 * 8 + 0 + 1 = 1 from rfl,rk];rfl
   ·by_cases a2:q = 1
    ·subst a2;rw [show 0 * 8 + 1 + 1 = 2 from rfl,fk];rfl
    ·rw [(i3 (0 * 8 + q + 1) (by omega) (by omega)).1,decide_eq_false (by omega)];rfl
  have e:(xB lk).ck12 0 = ((24:Int) - (cntB (bt (LB lk 42)) 24:Nat) == rB (LB lk 1) 0 && ((8:Int) - (cntB (bt (LB lk 43)) 8:Nat) == rI (LB lk 1) 0 && (((xB lk).nDir 0:Nat):Int) == rD (LB lk 1) 0)):=by kernel_rfl
  rw [e,hnd,bits42,bits43,LB_1,b1,b2,b3]
  rw [cntB_low (u:=8) (by decide) (fun q hq => by rw [bt_bZ];unfold mapB;simp;omega)]
  rw [cntB_low (u:=2) (by decide) (fun q hq => by rw [bt_bZ];unfold mapB;simp;omega)]
  rfl
def clrB (P:Nat → Bool) (i:Nat):Nat → Bool:=fun j => if j = i then false else P j
theorem cl0:∀ a b c d e f g h:Bool,b8 a b c d e f g h &&& (255 - 1) = b8 false b c d e f g h:=by decide
theorem cl1:∀ a b c d e f g h:Bool,b8 a b c d e f g h &&& (255 - 2) = b8 a false c d e f g h:=by decide
theorem cl2:∀ a b c d e f g h:Bool,b8 a b c d e f g h &&& (255 - 4) = b8 a b false d e f g h:=by decide
theorem cl3:∀ a b c d e f g h:Bool,b8 a b c d e f g h &&& (255 - 8) = b8 a b c false e f g h:=by decide
theorem cl4:∀ a b c d e f g h:Bool,b8 a b c d e f g h &&& (255 - 16) = b8 a b c d false f g h:=by decide
theorem cl5:∀ a b c d e f g h:Bool,b8 a b c d e f g h &&& (255 - 32) = b8 a b c d e false g h:=by decide
theorem cl6:∀ a b c d e f g h:Bool,b8 a b c d e f g h &&& (255 - 64) = b8 a b c d e f false h:=by decide
theorem cl7:∀ a b c d e f g h:Bool,b8 a b c d e f g h &&& (255 - 128) = b8 a b c d e f g false:=by decide
theorem by8_clr (P:Nat → Bool) (k j:Nat) (hj:j < 8):by8 P k &&& (255 - 2 ^ j) = by8 (clrB P (8 * k + j)) k:=by
 have hS:∀ m,m < 8 → clrB P (8 * k + j) (8 * k + m) = if m = j then false else P (8 * k + m):=fun m hm => by
  unfold clrB
  by_cases e:m = j
  ·rw [if_pos e,if_pos (by omega)]
  ·rw [if_neg e,if_neg (by omega)]
 have h0:=hS 0 (by omega)
 rw [Nat.add_zero] at h0
 unfold by8
 rw [h0,hS 1 (by omega),hS 2 (by omega),hS 3 (by omega),hS 4 (by omega),hS 5 (by omega),hS 6 (by omega),hS 7 (by omega)]
 have:j = 0 ∨ j = 1 ∨ j = 2 ∨ j = 3 ∨ j = 4 ∨ j = 5 ∨ j = 6 ∨ j = 7:=by omega
 rcases this with rfl | rfl | rfl | rfl | rfl | rfl | rfl | rfl
 ·exact cl0 _ _ _ _ _ _ _ _
 ·exact cl1 _ _ _ _ _ _ _ _
 ·exact cl2 _ _ _ _ _ _ _ _
 ·exact cl3 _ _ _ _ _ _ _ _
 ·exact cl4 _ _ _ _ _ _ _ _
 ·exact cl5 _ _ _ _ _ _ _ _
 ·exact cl6 _ _ _ _ _ _ _ _
 ·exact cl7 _ _ _ _ _ _ _ _
theorem by8_other2 (P:Nat → Bool) {i k:Nat} (h:k ≠ i / 8):by8 (clrB P i) k = by8 P k:=by
 unfold by8 clrB
 rw [if_neg (by omega),if_neg (by omega),if_neg (by omega),if_neg (by omega),if_neg (by omega),if_neg (by omega),if_neg (by omega),if_neg (by omega)]
theorem bZ_clr_at (P:Nat → Bool) (i:Nat):bZ (clrB P i) (i / 8) = ((by8 P (i / 8) &&& (255 - 2 ^ (i % 8)):Nat):Int):=by
 unfold bZ
 rw [by8_clr P _ _ (Nat.mod_lt _ (by decide)),show 8 * (i / 8) + i % 8 = i by omega]
theorem bZ_clr_off (P:Nat → Bool) (i:Nat) {k:Nat} (h:k ≠ i / 8):bZ (clrB P i) k = bZ P k:=by unfold bZ;rw [by8_other2 P h]
theorem by8_bit (P:Nat → Bool) (i:Nat):by8 P (i / 8) &&& 2 ^ (i % 8) = 2 ^ (i % 8) * (P i).toNat:=by
 have e:=by8_and P (i / 8) (i % 8) (Nat.mod_lt _ (by decide))
 rwa [show 8 * (i / 8) + i % 8 = i by omega] at e
structure BaS (q n:Nat) (L:Nat → Nat → Int) (W0 W:World):Prop where
 b:RArr W q 32 256 n (bkF L)
 d:∃ m,W = W0.drewN m
theorem BaS.cell {q n:Nat} {L:Nat → Nat → Int} {W0 W:World} (h:BaS q n L W0 W) {b k:Nat} (hb:b < n) (hk:k < 256):W.cell? ⟨q,b * 256 + k,none⟩ = some (.int .u8 (L b k)):=by
 have:=h.b.seg b hb k _ (Ks_get .u8 256 (L b) k hk)
 rwa [Nat.zero_add] at this
theorem bk_set {W:World} {q n:Nat} {L:Nat → Nat → Int} (h:RArr W q 32 256 n (bkF L)) {b k:Nat} (hb:b < n) (hk:k < 256) {z:Nat → Int} {v:Int} (hv:z k = v) (hz:∀ j,j < 256 → j ≠ k → z j = L b j) :
  RArr (W.setCell ⟨q,b * 256 + k,none⟩ (.int .u8 v)) q 32 256 n (bkF (updN L b z)):=by
 refine (h.cellset hb hk (fun i => bkF_len L i) (.int .u8 v)).congr fun i hi => ?_
 unfold bkF updN
 by_cases e:i = b
 ·rw [if_pos e,if_pos e,e]
  refine List.ext_getElem? fun j => ?_
  rw [List.getElem?_set]
  by_cases hj:j < 256
  ·rw [Ks_get .u8 256 z j hj]
   by_cases ej:k = j
   ·subst ej
    rw [if_pos rfl,if_pos (by rw [Ks_length];exact hk),hv]
   ·rw [if_neg ej,Ks_get .u8 256 (L b) j hj,hz j hj (fun h => ej h.symm)]
  ·rw [if_neg (by omega),List.getElem?_eq_none (by rw [Ks_length];omega),List.getElem?_eq_none (by rw [Ks_length];omega)]
 ·rw [if_neg e,if_neg e]
theorem bitClearA_any (q n b i:Nat) (hb:b < n) (hn:n ≤ 100000) (hi:i < 2048) (L:Nat → Nat → Int) (hL:Byt (L b)) (w:World) (hB:RArr w q 32 256 n (bkF L)) :
  Calls Tryz.prog 36 #[.pointer (some ⟨q,b * 256,none⟩),.int .i64 (i:Int)] w fun e w' =>
   (bt (L b) i = false ∧ e = .returned (.bool false) ∧ ∃ m,w' = w.drewN m) ∨ (bt (L b) i = true ∧ e = .returned (.bool true) ∧ RArr w' q 32 256 n (bkF (updN L b (bZ (clrB (bt (L b)) i)))) ∧ Only q w w'):=by
 have h0:(i:Int).tdiv 8 = ((i / 8:Nat):Int):=by rw [Int.tdiv_eq_ediv_of_nonneg (by omega)];omega
 have h1:(0:Int) ≤ ((i / 8:Nat):Int):=by omega
 have h2:((i / 8:Nat):Int) < 256:=by omega
 have hY:L b (i / 8) = ((by8 (bt (L b)) (i / 8):Nat):Int):=(bZ_bt hL (i / 8)).symm
 have ha:Hid (bits .and .u8 (L b (i / 8)) ((2 ^ (i % 8):Nat):Int) = ((2 ^ (i % 8) * (bt (L b) i).toNat:Nat):Int)):=by
  show _ = _
  rw [hY,u8_and_nat _ _ (by8_lt _ _) (pow_lt8 i),by8_bit]
 have ho:Hid (bits .andNot .u8 (L b (i / 8)) ((2 ^ (i % 8):Nat):Int) = bZ (clrB (bt (L b)) i) (i / 8)):=by
  show _ = _
  rw [hY]
  rw [u8_andNot_nat _ _ (by8_lt _ _) (pow_lt8 i),bZ_clr_at]
 have hoff:Hid (∀ j,j < 256 → j ≠ i / 8 → bZ (clrB (bt (L b)) i) j = L b j):=fun j _ hj => by rw [bZ_clr_off _ _ hj,bZ_bt hL]
 have hpos:Hid (0 < 2 ^ (i % 8)):=Nat.two_pow_pos _
 have st:Hid (BaS q n L w w):=⟨hB,0,rfl⟩
 have hi8:i / 8 < 256:=by omega
 have HMK:Hid (∀ W,Calls Tryz.prog 46 #[.int .i64 (i:Int)] W fun e w' => e = .returned (.int .u8 ((2 ^ (i % 8):Nat):Int)) ∧ W = w'):=fun W => bitMask_any i hi W
 clear hY hB
 generalize 2 ^ (i % 8) = M0 at *
 generalize hk:i / 8 = k at *
 clear hk
 go_enter Tryz.func36,Tryz.ntmps36
 go_wp2_with fail
 refine wp_region_S (BaS q n L w) (by kernel_rfl) (by kernel_rfl) ⟨st.out.b.of_block rfl,1,rfl⟩ ?_
 clear st
 intro hne
 have hc:∀ y:InW (BaS q n L w),y.W.cell? ⟨q,b * 256 + k,none⟩ = some (.int .u8 (L b k)):=fun y => y.h.cell hb hi8
 first | go_big_quiet_skip | (go_big_quiet_want;go_big_quiet_op;go_big_quiet_on)
 first | go_big_quiet_skip | (go_big_quiet_want;go_big_quiet_op;go_big_quiet_on)
 first | go_big_quiet_skip | (go_big_quiet_want;go_big_quiet_op;go_big_quiet_on)
 first | go_big_quiet_skip | (go_big_quiet_want;go_big_quiet_op;go_big_quiet_on)
 go_big_quiet_want
 go_big_quiet_op
 refine ⟨_,fun s => q_call s (fun W hW => (bitIs_any i hi W).mono fun e w' h => ⟨h.1,h.2 ▸ hW⟩),?_⟩
 go_big_quiet_on
 first | go_big_quiet_skip | (go_big_quiet_want;go_big_quiet_op;go_big_quiet_on)
 first | go_big_quiet_skip | (go_big_quiet_want;go_big_quiet_op;go_big_quiet_on)
 first | go_big_quiet_skip | (go_big_quiet_want;go_big_quiet_op;go_big_quiet_on)
 first | go_big_quiet_skip | (go_big_quiet_want;go_big_quiet_op;go_big_quiet_on)
 first | go_big_quiet_skip | (go_big_quiet_want;go_big_quiet_op;go_big_quiet_on)
 first | go_big_quiet_skip | (go_big_quiet_want;go_big_quiet_op;go_big_quiet_on)
 first | go_big_quiet_skip | (go_big_quiet_want;go_big_quiet_op;go_big_quiet_on)
 first | go_big_quiet_skip | (go_big_quiet_want;go_big_quiet_op;go_big_quiet_on)
 first | go_big_quiet_skip | (go_big_quiet_want;go_big_quiet_op;go_big_quiet_on)
 first | go_big_quiet_skip | (go_big_quiet_want;go_big_quiet_op;go_big_quiet_on)
 go_big_quiet_want
 go_big_quiet_op
 refine ⟨_,fun s => q_call s (fun W hW => (HMK.out W).mono fun e w' h => ⟨h.1,h.2 ▸ hW⟩),?_⟩
 go_big_quiet_on
 have ha':=ha.out
 obtain ⟨P,hP⟩:∃ P,P = bt (L b) i:=⟨_,rfl⟩
 rw [← hP] at ha'
 have HP:=Lib.hid hP
 clear hP
 cases P with
 | false =>
  rw [show M0 * false.toNat = 0 from Nat.mul_zero _] at ha'
  first | go_big_quiet_skip | (go_big_quiet_want;go_big_quiet_op;go_big_quiet_on)
  first | go_big_quiet_skip | (go_big_quiet_want;go_big_quiet_op;go_big_quiet_on)
  first | go_big_quiet_skip | (go_big_quiet_want;go_big_quiet_op;go_big_quiet_on)
  refine wpQuiet_nil ?_
  intro w5 h5
  obtain ⟨m5,hm5⟩:=h5.out.d
  have HM5:=Lib.hid hm5
  clear h5 hne hc ha' hm5
  go_wp2_with fail
  go_ret
  exact .inl ⟨HP.out.symm,rfl,by rw [HM5.out];exact ⟨m5,rfl⟩⟩
 | true =>
  rw [show M0 * true.toNat = M0 from Nat.mul_one _] at ha'
  have hp:=hpos.out
  have q1:(((M0:Nat):Int) == 0) = false:=by rw [beq_eq_false_iff_ne];omega
  first | go_big_quiet_skip | (go_big_quiet_want;go_big_quiet_op;go_big_quiet_on)
  first | go_big_quiet_skip | (go_big_quiet_want;go_big_quiet_op;go_big_quiet_on)
  first | go_big_quiet_skip | (go_big_quiet_want;go_big_quiet_op;go_big_quiet_on)
  refine wpQuiet_nil ?_
  intro w5 h5
  obtain ⟨m5,hm5⟩:=h5.out.d
  have st5:=h5.out.b
  clear h5 hne hc ha'
  go_wp2_with fail
  refine wp_region_bar2 (BaS q n L w) 11 (by kernel_rfl) (by kernel_rfl) (by kernel_rfl) (by kernel_rfl) (by kernel_rfl) (by decide) ⟨st5.of_block rfl,m5 + 1,by rw [hm5];rfl⟩ ?_
  simp only [List.take_succ_cons,List.take_zero,List.drop_succ_cons,List.drop_zero]
  intro hne
  have hc:∀ y:InW (BaS q n L w),y.W.cell? ⟨q,b * 256 + k,none⟩ = some (.int .u8 (L b k)):=fun y => y.h.cell hb hi8
  first | go_big_quiet_skip | (go_big_quiet_want;go_big_quiet_op;go_big_quiet_on)
  first | go_big_quiet_skip | (go_big_quiet_want;go_big_quiet_op;go_big_quiet_on)
  first | go_big_quiet_skip | (go_big_quiet_want;go_big_quiet_op;go_big_quiet_on)
  first | go_big_quiet_skip | (go_big_quiet_want;go_big_quiet_op;go_big_quiet_on)
  first | go_big_quiet_skip | (go_big_quiet_want;go_big_quiet_op;go_big_quiet_on)
  first | go_big_quiet_skip | (go_big_quiet_want;go_big_quiet_op;go_big_quiet_on)
  first | go_big_quiet_skip | (go_big_quiet_want;go_big_quiet_op;go_big_quiet_on)
  go_big_quiet_want
  go_big_quiet_op
  refine ⟨_,fun s => q_call s (fun W hW => (HMK.out W).mono fun e w' h => ⟨h.1,h.2 ▸ hW⟩),?_⟩
  go_big_quiet_on
  have ho':=ho.out
  first | go_big_quiet_skip | (go_big_quiet_want;go_big_quiet_op;go_big_quiet_on)
  first | go_big_quiet_skip | (go_big_quiet_want;go_big_quiet_op;go_big_quiet_on)
  first | go_big_quiet_skip | (go_big_quiet_want;go_big_quiet_op;go_big_quiet_on)
  refine wpQuiet_nil ?_
  intro w6 h6
  have st6:=h6.out
  clear h6 hne hc ho' st5 hm5
  obtain ⟨m6,hm6⟩:=st6.d
  have hc6:=st6.cell hb hi8
  have hf6:=st6.b.soft (b * 256 + k)
  have HR:=Lib.hid (bk_set st6.b hb hi8 rfl hoff.out)
  have HO:Hid (Only q w (w6.setCell ⟨q,b * 256 + k,none⟩ (.int .u8 (bZ (clrB (bt (L b)) i) k)))):=by
   have hd:Only q w (w.drewN m6):=(Only.refl _ _).drewN m6
   rw [← hm6] at hd
   exact hd.trans (Only.setCell w6 ⟨q,b * 256 + k,none⟩ _)
  clear st6 hm6
  go_wp2_with fail
  go_ret
  exact .inr ⟨HP.out.symm,rfl,HR.out,HO.out⟩
theorem awExam0 (lk:Int):(Im.of ((plA 0 lk).img xA) 66).exam = (0,fun _ => 0) ∧ (Im.of ((plA 0 lk).img xA) 66).o = 0:=by
 rw [img0]
 refine ⟨mk_exam mayA,?_⟩
 have h:=mk_of mayA
 have h2:Im.of LA 66 = mkIm 1 24 8 40:=h
 rw [h2]
theorem awGood:Im.Good (xB 0) (fun _ => false) o4A (updN (fun _ => []) 1 [2]):=by
 have h:=awB (lk:=0) (.inl rfl)
 refine ⟨h.c1,h.c2,h.c3,h.c4,h.c5,h.orph,h.c6,h.trees,h.c8,h.dirs,fun t h1 h2 => ?_,h.c11,h.c12⟩
 by_cases e:t = 2
 ·subst e;rw [h.c10'];rfl
 ·exact h.c10 t h1 h2 e
theorem awExam1:(Im.of ((plA 1 0).img xA) 66).exam = (0,o4A):=by
 have e:Im.of ((plA 1 0).img xA) 66 = xB 0:=by rw [img1];exact of_xB 0
 rw [e]
 exact Im.exam_good awGood
theorem awExam10:(Im.of ((plA 1 1).img xA) 66).exam.1 = 10:=by
 have e:Im.of ((plA 1 1).img xA) 66 = xB 1:=by rw [img1];exact of_xB 1
 rw [e]
 have h:=awB (lk:=1) (.inr rfl)
 have h10:allB (fun t => (xB 1).ck10 (updN (fun _ => []) 1 [2]) (t + 1)) (xB 1).ni = false:=by
  cases c:allB (fun t => (xB 1).ck10 (updN (fun _ => []) 1 [2]) (t + 1)) (xB 1).ni with
  | false => rfl
  | true =>
   have:=Im.all1.1 c 2 (by decide) (show 2 ≤ 8 by decide)
   rw [h.c10'] at this
   cases this
 have c3:allB (xB 1).ck3 (xB 1).g = true:=(allB_iff _ _).2 h.c3
 have c4:allB (fun t => (xB 1).ck4 (t + 1)) (xB 1).ni = true:=Im.all1.2 h.c4
 have c6:allB (fun t => (xB 1).ck6 (fun _ => false) (t + 1)) (xB 1).ni = true:=Im.all1.2 h.c6
 have c8:allB ((xB 1).ck8 o4A) (xB 1).g = true:=(allB_iff _ _).2 h.c8
 unfold Im.exam
 rw [h.c1,h.c2,c3,c4,h.orph]
 rw [if_neg (by decide),if_neg (by decide),if_neg (by decide),if_neg (by decide),if_neg (fun e => e h.c5)]
 show (if allB (fun t => (xB 1).ck6 (fun _ => false) (t + 1)) (xB 1).ni = false then _ else _:Nat × (Nat → Nat)).1 = _
 rw [c6,if_neg (by decide),h.trees]
 show (if allB ((xB 1).ck8 o4A) (xB 1).g = false then _ else _:Nat × (Nat → Nat)).1 = _
 rw [c8,if_neg (by decide),h.dirs]
 show (if allB (fun t => (xB 1).ck10 (updN (fun _ => []) 1 [2]) (t + 1)) (xB 1).ni = false then _ else _:Nat × (Nat → Nat)).1 = _
 rw [h10,if_pos rfl]
def LC:Nat → Nat → Int:=updN LA 42 (bZ (clrB (bt (LA 42)) 0))
theorem LC_byt (b:Nat):Byt (LC b):=by
 unfold LC updN;split
 ·exact bZ_byt _
 ·exact mkB_byt _ _ _ _ _
theorem awExam3:(Im.of LC 66).exam.1 = 3:=by
 obtain ⟨m,u,h⟩:=mk_good mayA
 have h0:LC 0 = LA 0:=by unfold LC updN;rw [if_neg (by decide)]
 have h1:LC 1 = LA 1:=by unfold LC updN;rw [if_neg (by decide)]
 have e:Im.of LC 66 = { xA with L:=LC }:=by
  have hm:=mk_of mayA
  unfold Im.of at hm ⊢
  rw [h0]
  injection hm with _ _ e1 e2 e3 e4 e5
  show (⟨LC,66,_,_,_,_,_⟩:Im) = _
  rw [e1,e2,e3,e4,e5]
 rw [e]
 have c1:Im.ck1 { xA with L:=LC } = true:=by
  have:=h.c1
  unfold Im.ck1 at this ⊢
  show (decide (0 < xA.n) && (readE (LC 0) == 0 && ((xA.n:Int) == nBl (hd (LC 0) 4) (hd (LC 0) 5) (hd (LC 0) 6) (hd (LC 0) 7)))) = true
  rw [h0];exact this
 have c2:Im.ck2 { xA with L:=LC } = true:=by
  have:=h.c2
  unfold Im.ck2 at this ⊢
  show rdOk xA.g xA.s xA.i xA.j (LC 1) = true
  rw [h1];exact this
 have c3:allB (Im.ck3 { xA with L:=LC }) 1 = false:=by
  have hb:bt (LC 42) 0 = false:=by
   unfold LC updN
   rw [if_pos rfl,bt_bZ];rfl
  cases c:allB (Im.ck3 { xA with L:=LC }) 1 with
  | false => rfl
  | true =>
   have:=(allB_iff _ _).1 c 0 (by decide)
   have e3:Im.ck3 { xA with L:=LC } 0 = (Im.allS (bt (LC 42)) 0 4 && (Im.allS (bt (LC 42)) 24 2048 && Im.allS (bt (LC 43)) 8 2048)):=by kernel_rfl
   rw [e3,Bool.and_eq_true,Im.allS_iff] at this
   have:=this.1 0 (by decide) (by decide)
   rw [hb] at this;cases this
 unfold Im.exam
 rw [c1,c2,if_neg (by decide),if_neg (by decide)]
 show (if allB (Im.ck3 { xA with L:=LC }) 1 = false then _ else _:Nat × (Nat → Nat)).1 = _
 rw [c3,if_pos rfl]
theorem awExamZ:(Im.of (fun _ _ => 0) 66).exam.1 = 1:=by
 have c1:(Im.of (fun _ _ => 0) 66).ck1 = false:=by kernel_rfl
 unfold Im.exam
 rw [c1,if_pos rfl]
theorem exam_none (L:Nat → Nat → Int):(Im.of L 0).exam.1 = 1:=by
 have c1:(Im.of L 0).ck1 = false:=by unfold Im.ck1 Im.of;rfl
 unfold Im.exam
 rw [c1,if_pos rfl]
theorem awCount:cntB (fun b => o4A b == 2) 66 = 3:=by decide +kernel
end Go.Proofs.YtphamecphmbipaaGreatDoor
