/- Texts of this claim, merged. -/
import Derived.Test.YtphamecphmbipaaGreatDoorK18
set_option maxRecDepth 100000
set_option maxHeartbeats 16000000

namespace Go.Proofs.YtphamecphmbipaaGreatDoor
open Go.RowKit
set_option linter.unusedVariables false
theorem foldO_none {σ:Type} {f:Nat → σ → Option σ} {o a:σ} {k n:Nat} (h:foldO f k o = some a) (hf:f k a = none) (hk:k < n):foldO f n o = none:=by
 induction n with
 | zero => omega
 | succ n ih =>
  rw [foldO]
  by_cases e:k = n
  ·subst e;rw [h];exact hf
  ·rw [ih (by omega)];rfl
theorem foldO_next {σ:Type} {f:Nat → σ → Option σ} {o a b:σ} {k:Nat} (h:foldO f k o = some a) (hf:f k a = some b):foldO f (k + 1) o = some b:=by
 rw [foldO,h];exact hf
theorem foldO_at {σ:Type} {f:Nat → σ → Option σ} {o o':σ} {n:Nat} (h:foldO f n o = some o') {k:Nat} (hk:k < n):∃ a b,foldO f k o = some a ∧ f k a = some b:=by
 induction n generalizing o' with
 | zero => omega
 | succ n ih =>
  rw [foldO] at h
  cases ha:foldO f n o with
  | none => rw [ha] at h;cases h
  | some a =>
   rw [ha] at h
   by_cases e:k = n
   ·subst e;exact ⟨a,o',ha,h⟩
   ·exact ih ha (by omega)
theorem foldO_inv {σ:Type} {P:Nat → σ → Prop} {f:Nat → σ → Option σ} {o o':σ} {n:Nat} (h:foldO f n o = some o') (h0:P 0 o) (hs:∀ k a b,k < n → P k a → f k a = some b → P (k + 1) b):P n o':=by
 induction n generalizing o' with
 | zero => injection h with h;exact h ▸ h0
 | succ n ih =>
  rw [foldO] at h
  cases ha:foldO f n o with
  | none => rw [ha] at h;cases h
  | some a => rw [ha] at h;exact hs n a o' (by omega) (ih ha fun k a b hk => hs k a b (by omega)) h
theorem cntB_le (p:Nat → Bool) (n:Nat):cntB p n ≤ n:=by
 induction n with
 | zero => exact Nat.le_refl _
 | succ n ih => rw [cntB];split <;> omega
theorem cntB_set {p:Nat → Bool} {n k:Nat} (hk:k < n) (h:p k = false):cntB (updN p k true) n = cntB p n + 1:=by
 induction n with
 | zero => omega
 | succ n ih =>
  rw [cntB,cntB]
  by_cases e:k = n
  ·subst e
   rw [cntB_congr (q:=p) fun i hi => by unfold updN;rw [if_neg (by omega)]]
   have:updN p k true k = true:=by unfold updN;rw [if_pos rfl]
   rw [this,h,if_pos rfl,if_neg (by decide)]
  ·have:updN p k true n = p n:=by unfold updN;rw [if_neg (by omega)]
   rw [ih (by omega),this];omega
namespace Im
variable {x:Im}
def okW (x:Im):Nat → Nat → Prop
 | 0,p => p = 0 ∨ x.data p = true
 | l + 1,p => p = 0 ∨ (x.data p = true ∧ ∀ k,k < 64 → okW x l (x.wrd p k))
theorem okW.lt {l p:Nat} (h:x.okW l p) (h0:p ≠ 0):p < x.n:=by
 have hd:x.data p = true:=by
  cases l with
  | zero => exact h.resolve_left h0
  | succ l => exact (h.resolve_left h0).1
 unfold data at hd
 rw [Bool.and_eq_true,Bool.and_eq_true,decide_eq_true_eq,decide_eq_true_eq] at hd
 exact hd.2.1
theorem ptrF_ok (t:Nat):∀ (l p first en:Nat) (o o':Nat → Nat),x.ptrF t l p first en o = some o' → x.okW l p
 | 0,p,first,en,o,o',h => by
  rw [ptrF] at h
  by_cases h0:p = 0
  ·exact .inl h0
  rw [if_neg h0] at h
  by_cases hc:first < min en 65536 ∧ x.data p = true ∧ o p = 0
  ·exact .inr hc.2.1
  ·rw [if_neg hc] at h;cases h
 | l + 1,p,first,en,o,o',h => by
  rw [ptrF] at h
  by_cases h0:p = 0
  ·exact .inl h0
  rw [if_neg h0] at h
  by_cases hc:first < min en 65536 ∧ x.data p = true ∧ o p = 0
  ·rw [if_pos hc] at h
   refine .inr ⟨hc.2.1,fun k hk => ?_⟩
   obtain ⟨a,b,_,hb⟩:=foldO_at h hk
   exact ptrF_ok t l _ _ _ a b hb
  ·rw [if_neg hc] at h;cases h
def Tree (x:Im) (t:Nat):Prop:=∀ q,q < 11 → x.okW (lvl q) ((x.ino t).p q).toNat
theorem trees_ok {m:Nat → Bool} {o:Nat → Nat} (h:x.trees m = some o) {t:Nat} (h1:1 ≤ t) (h2:t ≤ x.ni) (hk:(x.ino t).kind ≠ 0):x.Tree t:=by
 obtain ⟨a,b,_,hb⟩:=foldO_at h (k:=t - 1) (by omega)
 rw [show t - 1 + 1 = t by omega] at hb
 unfold treeF at hb
 rw [if_neg hk] at hb
 intro q hq
 obtain ⟨a',b',_,hb'⟩:=foldO_at hb hq
 exact ptrF_ok t _ _ _ _ _ _ hb'
theorem way_ok {l p:Nat} (h:x.okW l p):∀ (ws:List Nat),ws.length ≤ l → (∀ k,k ∈ ws → k < 64) → x.okW (l - ws.length) (ws.foldl x.step p):=by
 intro ws
 induction ws generalizing l p with
 | nil => intro _ _;exact h
 | cons k ws ih =>
  intro hl hk
  rw [List.length_cons] at hl ⊢
  obtain ⟨l,rfl⟩:∃ l',l = l' + 1:=⟨l - 1,by omega⟩
  rw [show l + 1 - (ws.length + 1) = l - ws.length by omega,List.foldl_cons]
  refine ih ?_ (by omega) fun k' hk' => hk k' (List.mem_cons_of_mem _ hk')
  unfold step
  split
  ·cases l with
   | zero => exact .inl rfl
   | succ l => exact .inl rfl
  ·rename_i h0
   exact (h.resolve_left h0).2 k (hk k (List.mem_cons_self ..))
theorem wayP_lt (i:Nat):wayP i < 11:=by unfold wayP;split <;> (try split) <;> (try split) <;> omega
theorem wayB_len (i:Nat):(wayB i).length = lvl (wayP i):=by
 unfold wayB wayP lvl
 by_cases h1:i < 8
 ·rw [if_pos h1,if_pos h1,if_pos h1];rfl
 rw [if_neg h1,if_neg h1]
 by_cases h2:i < 72
 ·rw [if_pos h2,if_pos h2];rfl
 rw [if_neg h2,if_neg h2]
 by_cases h3:i < 4168
 ·rw [if_pos h3,if_pos h3];rfl
 ·rw [if_neg h3,if_neg h3];rfl
theorem wayB_lt {i:Nat} (hi:i < 65536):∀ k,k ∈ wayB i → k < 64:=by
 intro k hk
 unfold wayB at hk
 split at hk
 ·cases hk
 split at hk
 ·simp only [List.mem_singleton] at hk;omega
 split at hk
 ·simp only [List.mem_cons,List.not_mem_nil,or_false] at hk;omega
 ·simp only [List.mem_cons,List.not_mem_nil,or_false] at hk;omega
theorem blk_lt {t i:Nat} (h:x.Tree t) (hi:i < 65536) (h0:x.blk t i ≠ 0):x.blk t i < x.n:=by
 have:=way_ok (h (wayP i) (wayP_lt i)) (wayB i) (Nat.le_of_eq (wayB_len i)) (wayB_lt hi)
 exact okW.lt this h0
theorem orpF_step {f t:Nat} {m:Nat → Bool} (h0:t ≠ 0) (h1:t ≤ x.ni) (h2:m t = false) (h3:(x.ino t).kind = 1):x.orpF (f + 1) t m = x.orpF f (x.ino t).next.toNat (updN m t true):=by
 rw [orpF,if_neg h0,if_pos ⟨h1,h2,h3⟩]
theorem orpF_no {f t:Nat} {m:Nat → Bool} (h0:t ≠ 0) (h:¬ (t ≤ x.ni ∧ m t = false ∧ (x.ino t).kind = 1)):x.orpF (f + 1) t m = none:=by
 rw [orpF,if_neg h0,if_neg h]
end Im
theorem pcells_eq {K A F S P K' A' F' S' P':Int} (h:pcells K A F S P = pcells K' A' F' S' P'):K = K' ∧ A = A' ∧ F = F' ∧ S = S' ∧ P = P':=by
 simp only [pcells] at h
 simp only [Array.mk.injEq] at h
 simp only [List.cons.injEq,Value.int.injEq,true_and,and_true] at h
 exact h
theorem what_cases {x:Im} (hx:x.Ok) {v:Nat} (hv:v < x.n) {K A B:Int} (h:WhatIs x.g x.s x.i x.j v K A B) :
  (v < 2 + x.j ∧ 1 ≤ K ∧ K ≤ 3) ∨ ∃ γ r:Nat,γ < x.g ∧ r < x.s ∧ v = x.st γ + r ∧ A = (γ:Int) ∧ B = (r:Int) ∧ K = if r = 0 then 4 else if r = 1 then 5 else if r < x.own then 6 else 7:=by
 obtain ⟨h1,h2,h3,h4,h5,h6,h7,h8,h9,h10,h11⟩:=mayN hx.may
 have hn:=hx.n
 have e:((x.g * x.s:Nat):Int) = (x.g:Int) * (x.s:Int):=Int.natCast_mul _ _
 rcases h with ⟨h,_⟩ | ⟨_,k,Sz,Pl,hk,hp,hlo,hhi,hB⟩
 ·exfalso
  have hnb:nBl x.g x.s x.i x.j = 2 + x.j + x.g * x.s:=by unfold nBl;rw [hx.may];rfl
  rw [hnb,← e,hx.may] at h
  rcases h with h | h | h
  ·cases h
  ·omega
  ·omega
 by_cases h0:k = 0
 ·subst h0
  have e1:frF x.s ((x.i:Int) / 4) x.j 1 = 1:=rfl
  rw [Nat.zero_add,e1] at hhi
  obtain ⟨rfl,_⟩:=pcells_eq (hp.symm.trans (show ptF x.s ((x.i:Int) / 4) x.j 0 = pcells 1 0 0 1 0 from rfl))
  exact .inl ⟨by omega,by decide,by decide⟩
 by_cases h0:k = 1
 ·subst h0
  have e1:frF x.s ((x.i:Int) / 4) x.j (1 + 1) = 2:=rfl
  rw [e1] at hhi
  obtain ⟨rfl,_⟩:=pcells_eq (hp.symm.trans (show ptF x.s ((x.i:Int) / 4) x.j 1 = pcells 2 0 1 1 0 from rfl))
  exact .inl ⟨by omega,by decide,by decide⟩
 by_cases h0:k = 2
 ·subst h0
  have e1:frF x.s ((x.i:Int) / 4) x.j (2 + 1) = 2 + x.j:=by have:=frF_end x.s ((x.i:Int) / 4) x.j 0;simpa using this
  rw [e1] at hhi
  obtain ⟨rfl,_⟩:=pcells_eq (hp.symm.trans (show ptF x.s ((x.i:Int) / 4) x.j 2 = pcells 3 0 2 x.j 0 from rfl))
  exact .inl ⟨by omega,by decide,by decide⟩
 obtain ⟨γ,m,hm4,rfl⟩:∃ γ m,m < 4 ∧ k = 3 + 4 * γ + m:=⟨(k - 3) / 4,(k - 3) % 4,by omega,by omega⟩
 have hγ:γ < x.g:=by omega
 have eg:((γ * x.s:Nat):Int) = (γ:Int) * (x.s:Int):=Int.natCast_mul _ _
 have ei:(x.i:Int) / 4 = ((x.i / 4:Nat):Int):=by omega
 have hnx:frF x.s ((x.i:Int) / 4) x.j (3 + 4 * γ + m + 1) = 2 + x.j + (γ:Int) * x.s + (if m = 0 then 1 else if m = 1 then 2 else if m = 2 then 2 + (x.i:Int) / 4 else x.s):=by
  by_cases e3:m = 3
  ·subst e3
   have:=frF_end x.s ((x.i:Int) / 4) x.j (γ + 1)
   rw [show 3 + 4 * (γ + 1) = 3 + 4 * γ + 3 + 1 by omega] at this
   rw [this,if_neg (by decide),if_neg (by decide),if_neg (by decide)]
   push_cast
   rw [Int.add_mul,Int.one_mul];omega
  ·rw [show 3 + 4 * γ + m + 1 = 3 + 4 * γ + (m + 1) by omega,frF_at _ _ _ _ (show m + 1 < 4 by omega)]
   obtain rfl | rfl | rfl:m = 0 ∨ m = 1 ∨ m = 2:=by omega
   ·rfl
   ·rfl
   ·rfl
 rw [hnx,← eg] at hhi
 rw [frF_at _ _ _ _ hm4] at hlo hB hp
 rw [← eg] at hlo hB
 rw [ptF_at _ _ _ _ hm4] at hp
 refine .inr ⟨γ,v - x.st γ,hγ,?_,?_,?_,?_,?_⟩
 ·unfold Im.st
  obtain rfl | rfl | rfl | rfl:m = 0 ∨ m = 1 ∨ m = 2 ∨ m = 3:=by omega
  all_goals simp at hhi hlo;omega
 ·unfold Im.st
  obtain rfl | rfl | rfl | rfl:m = 0 ∨ m = 1 ∨ m = 2 ∨ m = 3:=by omega
  all_goals simp at hhi hlo;omega
 ·obtain rfl | rfl | rfl | rfl:m = 0 ∨ m = 1 ∨ m = 2 ∨ m = 3:=by omega
  ·rw [if_pos rfl] at hp;exact (pcells_eq hp).2.1.symm
  ·rw [if_neg (by decide),if_pos rfl] at hp;exact (pcells_eq hp).2.1.symm
  ·rw [if_neg (by decide),if_neg (by decide),if_pos rfl] at hp;exact (pcells_eq hp).2.1.symm
  ·rw [if_neg (by decide),if_neg (by decide),if_neg (by decide)] at hp;exact (pcells_eq hp).2.1.symm
 ·unfold Im.st
  obtain rfl | rfl | rfl | rfl:m = 0 ∨ m = 1 ∨ m = 2 ∨ m = 3:=by omega
  ·rw [if_pos rfl] at hp;have:=(pcells_eq hp).2.2.2.2;simp at hhi hlo hB;omega
  ·rw [if_neg (by decide),if_pos rfl] at hp;have:=(pcells_eq hp).2.2.2.2;simp at hhi hlo hB;omega
  ·rw [if_neg (by decide),if_neg (by decide),if_pos rfl] at hp;have:=(pcells_eq hp).2.2.2.2;simp at hhi hlo hB;omega
  ·rw [if_neg (by decide),if_neg (by decide),if_neg (by decide)] at hp;have:=(pcells_eq hp).2.2.2.2;simp at hhi hlo hB;omega
 ·unfold Im.st Im.own
  obtain rfl | rfl | rfl | rfl:m = 0 ∨ m = 1 ∨ m = 2 ∨ m = 3:=by omega
  ·rw [if_pos rfl] at hp;have:=(pcells_eq hp).1;simp at hhi hlo
   rw [if_pos (by omega)];exact this.symm
  ·rw [if_neg (by decide),if_pos rfl] at hp;have:=(pcells_eq hp).1;simp at hhi hlo
   rw [if_neg (by omega),if_pos (by omega)];exact this.symm
  ·rw [if_neg (by decide),if_neg (by decide),if_pos rfl] at hp;have:=(pcells_eq hp).1;simp at hhi hlo
   rw [if_neg (by omega),if_neg (by omega),if_pos (by omega)];exact this.symm
  ·rw [if_neg (by decide),if_neg (by decide),if_neg (by decide)] at hp;have:=(pcells_eq hp).1;simp at hhi hlo
   rw [if_neg (by omega),if_neg (by omega),if_neg (by omega)];exact this.symm
theorem st_div {x:Im} {γ r:Nat} (hr:r < x.s):(x.st γ + r - (2 + x.j)) % x.s = r ∧ (x.st γ + r - (2 + x.j)) / x.s = γ:=by
 unfold Im.st
 rw [show 2 + x.j + γ * x.s + r - (2 + x.j) = r + x.s * γ by rw [Nat.mul_comm];omega]
 exact ⟨by rw [Nat.add_mul_mod_self_left,Nat.mod_eq_of_lt hr],by rw [Nat.add_mul_div_left _ _ (by omega),Nat.div_eq_of_lt hr,Nat.zero_add]⟩
theorem data_st {x:Im} (hx:x.Ok) {γ r:Nat} (hγ:γ < x.g) (hr:r < x.s):x.data (x.st γ + r) = decide (x.own ≤ r):=by
 have h1:=hx.st hγ hr
 unfold Im.data
 rw [(st_div hr).1]
 have:2 + x.j ≤ x.st γ + r:=by unfold Im.st;omega
 simp [this,h1]
theorem what_data {x:Im} (hx:x.Ok) {v:Nat} (hv:v < x.n) {K A B:Int} (h:WhatIs x.g x.s x.i x.j v K A B):(K == 7) = x.data v:=by
 rcases what_cases hx hv h with ⟨h1,h2,h3⟩ | ⟨γ,r,hγ,hr,rfl,_,_,hK⟩
 ·unfold Im.data
  have:¬ 2 + x.j ≤ v:=by omega
  simp [this];omega
 ·rw [data_st hx hγ hr,hK]
  unfold Im.own
  by_cases h0:r = 0
  ·subst h0;simp
  by_cases h1:r = 1
  ·subst h1;simp;omega
  by_cases h2:r < 2 + x.i / 4
  ·rw [if_neg h0,if_neg h1,if_pos h2];simp;omega
  ·rw [if_neg h0,if_neg h1,if_neg h2];simp;omega
end Go.Proofs.YtphamecphmbipaaGreatDoor

namespace Go.Proofs.YtphamecphmbipaaGreatDoor
open Go.RowKit
variable {P:Program}
theorem wp_rangeIx2 {g:Operand} {ps:Array Tmp} {asg bdy:Code} {Q:Exit → Act → World → Prop} {a:Act} {w:World} {gf:Nat} {lb:Array Value}
  (hg:a.eval g = .func (.func gf) #[] lb) (eg:∀ args w,(callFunc gf args).run P w = .ok (.enter gf args) w)
  {encs:Nat → Array Value} {N:Nat} {Need:Nat → World → Prop} (hit:IterIx Fence.wide 4 P gf lb encs N (fun _ => False) Need) (hps:∀ k,(encs k).size = ps.size)
  (J:Nat → World → Prop) (Jx:Code → Nat → World → Prop)
  (hJ:∀ k,LocalP w.heap.size (J k)) (hJx:∀ c k,LocalP w.heap.size (Jx c k)) (hN:∀ k,LocalP w.heap.size (Need k)) (h0:J 0 w) (hn0:Need 0 w) (A1:Nat → Act)
  (assign:∀ (l k:Nat) (W:World) (K:Act → World → Prop),k < N → K (A1 k) W →
   asg.wpIn (Fence.wide.inRound l) 3 P (Exit.then K (fun _ _ _ => False)) { tmps:=(ps.zip (encs k)).foldl (fun t (p,v) => t.setIfInBounds p v) a.tmps,defers:=[] } W)
  (body:∀ (l k:Nat) (W:World),k < N → J k W → Need k W → bdy.wpIn (Fence.wide.inRound l) 3 P (roundIx w.heap.size J Jx Need k W) (A1 k) W)
  (done:∀ (D:Nat) (W:World),w.heap.size ≤ D → J N W → W.heap[D]? = some (.deferred (some [])) → Q .normal { a with defers:={ target:=.collected D,args:=#[] } :: a.defers } W)
  (stop:∀ (D:Nat) (c:Code) (k:Nat) (W:World),w.heap.size ≤ D → k < N → Jx c k W → W.heap[D]? = some (.deferred (some [])) → c.wp P Q { a with defers:={ target:=.collected D,args:=#[] } :: a.defers } W) :
  (Code.rangeFunc g ps asg bdy).wp P Q a w :=
 wp_rangeIx hg eg hit hps J Jx A1 hJ hJx hN h0 hn0 assign body done stop
end Go.Proofs.YtphamecphmbipaaGreatDoor

namespace Go.Proofs.YtphamecphmbipaaGreatDoor
open Go.RowKit Go.Shelf
set_option linter.unusedVariables false
attribute [local go_sem] Oper.semAt_some
structure GetFr (w:World) (z:Nat → Int) (W:World):Prop where
 b:Blk W w.heap.size 32 256 z
 i:InoAt W (w.heap.size + 1) 63 .nil
 bel:Below w.heap.size w W
theorem getFr_start (w:World) (z:Nat → Int):GetFr w z ((w.alloc (.cells (Ks .u8 256 z).toArray 32)).alloc (.cells Ino.nil.arr 63)):=by
 refine ⟨(Blk.new _ _ _ _).alloc _,?_,((Below.refl _ _).alloc (Nat.le_refl _) _).alloc (by simp) _⟩
 have:=InoAt.new (w.alloc (.cells (Ks .u8 256 z).toArray 32)) .nil
 simp only [World.size_alloc] at this;exact this
theorem g16_shift (z:Nat → Int) (i k:Nat):g16 (fun j => z (i + j)) k = g16 z (i + k):=by unfold g16;simp only [Nat.add_assoc]
theorem g32_shift (z:Nat → Int) (i k:Nat):g32 (fun j => z (i + j)) k = g32 z (i + k):=by unfold g32;simp only [Nat.add_assoc]
theorem own16 (g i:Nat) (z:Nat → Int) (hz:Byt z) (k:Nat) (K:Int) (w:World) (hK:K = (k:Int)) (hk:k + 2 ≤ 64) (hi:i ≤ 192) {T:TypeId} (hB:Blk w g T 256 z) :
  Calls Tryz.prog 50 #[.slice (some ⟨g,i,none⟩) 64 (256 - i),.int .i64 K] w fun e w' => e = .returned (.tuple #[.int .u32 (g16 z (i + k)),.bool true]) ∧ w = w':=by
 subst hK
 have hseg:Seg w g i 64 (fun j => z (i + j)):=by have:=hB.seg.sub i 64 (by omega);rwa [Nat.zero_add] at this
 have:=get16_yes g i 64 (256 - i) k _ w (by omega) (by omega) (by omega) hseg (fun j => hz _)
 rwa [Int.toNat_natCast,g16_shift] at this
theorem own32 (g i:Nat) (z:Nat → Int) (hz:Byt z) (k:Nat) (K:Int) (w:World) (hK:K = (k:Int)) (hk:k + 4 ≤ 64) (hi:i ≤ 192) {T:TypeId} (hB:Blk w g T 256 z) :
  Calls Tryz.prog 51 #[.slice (some ⟨g,i,none⟩) 64 (256 - i),.int .i64 K] w fun e w' => e = .returned (.tuple #[.int .u32 (g32 z (i + k)),.bool true]) ∧ w = w':=by
 subst hK
 have hseg:Seg w g i 64 (fun j => z (i + j)):=by have:=hB.seg.sub i 64 (by omega);rwa [Nat.zero_add] at this
 have:=get32_yes g i 64 (256 - i) k _ w (by omega) (by omega) (by omega) hseg (fun j => hz _)
 rwa [Int.toNat_natCast,g32_shift] at this
structure GetSt (w:World) (z:Nat → Int) (X:Nat) (x:Ino) (W:World):Prop where
 b:Blk W w.heap.size 32 256 z
 r:InoAt W (w.heap.size + 1) 63 .nil
 x:InoAt W X 63 x
 bel:Below w.heap.size w W
theorem GetSt.set {w W:World} {z:Nat → Int} {X:Nat} {x y:Ino} (h:GetSt w z X x W) (j:Nat) (v:Value) (hX:w.heap.size + 1 < X) (hy:x.arr.setIfInBounds j v = y.arr):GetSt w z X y (W.setCell ⟨X,j,none⟩ v):=by
 have ho:=Only.setCell W ⟨X,j,none⟩ v
 exact ⟨h.b.only ho (by simp;omega),h.r.only ho (by simp;omega),h.x.set j v hy,h.bel.trans (ho.below (by simp;omega))⟩
theorem GetSt.below {w W W':World} {z:Nat → Int} {X:Nat} {x:Ino} (h:GetSt w z X x W) (hb:Below W.heap.size W W'):GetSt w z X x W' :=
 ⟨h.b.below hb h.b.lt,h.r.below hb h.r.lt,h.x.below hb h.x.lt,h.bel.trans (hb.mono h.bel.size)⟩
theorem GetSt.local {w:World} {z:Nat → Int} {X B:Nat} {x:Ino} (h1:w.heap.size + 1 < B) (hX:X < B):LocalP B (GetSt w z X x):=fun A C hs hg =>
 ⟨LocalP.heap _ (by omega) A C hs.b hg,LocalP.heap _ h1 A C hs.r hg,LocalP.heap _ hX A C hs.x hg,LocalP.below w (by omega) (Nat.le_refl _) A C hs.bel hg⟩
theorem inoGet_any (z:Nat → Int) (hz:Byt z) (a:Int) (w:World) (h0:-9223372036854775808 ≤ a) (h1:a ≤ 9223372036854775807) :
  Calls Tryz.prog 21 #[bval z,.int .i64 a] w fun e w' => e = .returned (.tuple #[(getIno z a).val,.int .i64 (getErr z a)]) ∧ Below w.heap.size w w':=by
 refine (callsIn_wide (n:=5)).1 (callsIn_of_wp_marks Tryz.func21 rfl trivial ?_ rfl)
 refine wpIn_wide.2 ?_
 simp only [Tryz.ntmps21,List.size_toArray,List.length_cons,List.length_nil,Nat.reduceAdd,Nat.reduceSub,Array.replicate_succ,Array.replicate_zero,List.push_toArray,List.append_toArray,List.nil_append,List.cons_append]
 have hal:=zero_ino
 go_wp2_with fail
 refine ((place_any a _ h0 h1).mono (R':=fun e w' => e = .returned (.bool (placeB a)) ∧ GetFr w z w') (fun e w' h => ⟨h.1,h.2 ▸ getFr_start w z⟩)).mono ?_
 rintro e w1 ⟨rfl,hf⟩
 clear hal
 by_cases hp:placeB a = true
 rotate_left
 ·rw [Bool.not_eq_true] at hp
  have HP:=Lib.hid hp
  rw [hp]
  clear hp
  go_wp2_with (first | (refine wp_storeIno rfl (.tmp 4) (.tmp 17) rfl (w.heap.size + 1) .nil .nil rfl rfl hf.i ?_))
  intro w2 hi2 ho2
  go_wp2_with fail
  refine bodyPostM_early (results_ino rfl _ _ (w.heap.size + 1) .nil rfl hi2) ⟨?_,hf.bel.trans (ho2.below (by omega))⟩
  rw [getIno,getErr,HP.out];rfl
 have HP:=Lib.hid hp
 have hpl:=(placeB_iff a).1 hp
 rw [hp]
 have ha0:0 ≤ a:=by omega
 have ha1:a ≤ 192:=by omega
 clear hp hpl
 obtain ⟨i,rfl⟩:=Int.eq_ofNat_of_zero_le ha0
 have hsl:=fun W => run_sliceBlk w.heap.size 0 i (i + 64) (i:Int) ((i:Int) + 64) rfl (by omega) (by omega) (by omega) (by omega) W
 simp only [Nat.zero_add,Nat.add_sub_cancel_left] at hsl
 have hs2:=fun W => run_sl_low (some ⟨w.heap.size,i,none⟩) 64 (256 - i) 60 60 rfl (by omega) W
 have c1:w1.cell? ⟨w.heap.size,i + 1,none⟩ = some (.int .u8 (z (i + 1))):=by have:=hf.b.seg (i + 1) (by omega);rwa [Nat.zero_add] at this
 by_cases hv:z (i + 1) = 0
 rotate_left
 ·have q1:(z (i + 1) != 0) = true:=by simpa using hv
  have hg:Hid (getOkB z i = false):=by show _ = _;unfold getOkB;simp [hv]
  clear hv hs2
  have hf':=hf.i
  go_wp2_with (first | (refine wp_storeIno rfl (.tmp 4) (.tmp 32) rfl (w.heap.size + 1) .nil .nil rfl rfl hf' ?_))
  intro w2 hi2 ho2
  go_wp2_with fail
  refine bodyPostM_early (results_ino rfl _ _ (w.heap.size + 1) .nil rfl hi2) ⟨?_,hf.bel.trans (ho2.below (by omega))⟩
  rw [getIno,getErr,HP.out,Int.toNat_natCast,hg.out];rfl
 have q1:(z (i + 1) != 0) = false:=by simpa using hv
 have HV:=Lib.hid hv
 clear hv
 have hseg:Seg w1 w.heap.size i 64 (fun j => z (i + j)):=by have:=hf.b.seg.sub i 64 (by omega);rwa [Nat.zero_add] at this
 have hrow:Row w1 (slAt (some ⟨w.heap.size,i,none⟩) 60 (256 - i)) (64 - 60) (fun j => (fun j => z (i + j)) (60 + j)):=Row.slice (.inr ⟨_,_,rfl,hseg⟩) (by omega) (by omega)
 have HR:=Lib.hid hrow
 clear hrow
 generalize slAt (some ⟨w.heap.size,i,none⟩) 60 (256 - i) = sa60 at hs2 HR
 go_wp2_with fail
 refine (zero_any sa60 _ _ _ _ (by omega) (by exact HR.out)).mono ?_
 rintro e w2 ⟨rfl,rfl⟩
 clear HR hs2
 by_cases hzz:allZ (fun j => z (i + (60 + j))) (64 - 60) = true
 rotate_left
 ·rw [Bool.not_eq_true] at hzz
  have hg:Hid (getOkB z i = false):=by
   show _ = _;unfold getOkB
   have:allZ (fun k => z (i + 60 + k)) 4 = false:=by rw [← hzz];congr 1;funext k;rw [Nat.add_assoc]
   rw [this];simp
  dsimp only
  rw [hzz]
  clear hzz
  have hf':=hf.i
  go_wp2_with (first | (refine wp_storeIno rfl (.tmp 4) (.tmp 32) rfl (w.heap.size + 1) .nil .nil rfl rfl hf' ?_))
  intro w2 hi2 ho2
  go_wp2_with fail
  refine bodyPostM_early (results_ino rfl _ _ (w.heap.size + 1) .nil rfl hi2) ⟨?_,hf.bel.trans (ho2.below (by omega))⟩
  rw [getIno,getErr,HP.out,Int.toNat_natCast,hg.out];rfl
 have HZZ:Hid (allZ (fun k => z (i + 60 + k)) 4 = true):=by show _ = _;rw [← hzz];congr 1;funext k;rw [Nat.add_assoc]
 dsimp only
 rw [hzz]
 clear hzz
 have c0:w1.cell? ⟨w.heap.size,i,none⟩ = some (.int .u8 (z i)):=by have:=hf.b.seg i (by omega);rwa [Nat.zero_add] at this
 have hs1:w.heap.size + 1 < w1.heap.size:=hf.i.lt
 have hnew:=(InoAt.new w1 .nil)
 have hal:=zero_ino
 go_wp2_with (first | (refine wp_storeIno rfl (.tmp 7) (.tmp 36) rfl w1.heap.size ⟨z i,0,0,0,fun _ => 0,0⟩ .nil rfl rfl hnew ?_))
 intro w2 hi2 ho2
 have hX:w1.heap.size < w2.heap.size:=hi2.lt
 have st2:GetSt w z w1.heap.size ⟨z i,0,0,0,fun _ => 0,0⟩ w2:=⟨(hf.b.alloc _).only ho2 (by omega),(hf.i.alloc _).only ho2 (by omega),hi2,(hf.bel.alloc (by omega) _).trans (ho2.below (by omega))⟩
 clear hal hnew hf ho2 c0 c1 q1 hseg hi2
 generalize w1.heap.size = X at *
 clear w1
 have g2:=g16_bd hz (i + 2)
 have g8:=g32_bd hz (i + 8)
 have g20:=g2.1
 have g21:=g2.2
 have g80:=g8.1
 have g81:=g8.2
 clear g2 g8
 have c1:w2.cell? ⟨X,1,none⟩ = some (.int .i64 0):=st2.x.cell (i:=1) rfl
 have f1:w2.frozen? ⟨X,1,none⟩ = false:=soft_of_heap st2.x 1
 have st3:=st2.set (y:=⟨z i,g16 z (i + 2),0,0,fun _ => 0,0⟩) 1 (.int .i64 (g16 z (i + 2))) hs1 rfl
 go_wp2_with fail
 refine (own16 w.heap.size i z hz 2 2 w2 rfl (by omega) (by omega) st2.b).mono ?_
 rintro e w3 ⟨rfl,rfl⟩
 go_wp2_with fail
 clear c1 f1 st2
 generalize w2.setCell ⟨X,1,none⟩ (.int .i64 (g16 z (i + 2))) = w3 at st3 ⊢
 have c1:w3.cell? ⟨X,2,none⟩ = some (.int .u32 0):=st3.x.cell (i:=2) rfl
 have f1:w3.frozen? ⟨X,2,none⟩ = false:=soft_of_heap st3.x 2
 have st4:=st3.set (y:=⟨z i,g16 z (i + 2),g32 z (i + 4),0,fun _ => 0,0⟩) 2 (.int .u32 (g32 z (i + 4))) hs1 rfl
 refine (own32 w.heap.size i z hz 4 4 w3 rfl (by omega) (by omega) st3.b).mono ?_
 rintro e w4 ⟨rfl,rfl⟩
 go_wp2_with fail
 clear c1 f1 st3
 generalize w3.setCell ⟨X,2,none⟩ (.int .u32 (g32 z (i + 4))) = w4 at st4 ⊢
 have c1:w4.cell? ⟨X,3,none⟩ = some (.int .i64 0):=st4.x.cell (i:=3) rfl
 have f1:w4.frozen? ⟨X,3,none⟩ = false:=soft_of_heap st4.x 3
 have st5:GetSt w z X (inoAt' z i 0) _:=st4.set (y:=inoAt' z i 0) 3 (.int .i64 (g32 z (i + 8))) hs1 rfl
 refine (own32 w.heap.size i z hz 8 8 w4 rfl (by omega) (by omega) st4.b).mono ?_
 rintro e w5 ⟨rfl,rfl⟩
 go_wp2_with fail
 clear c1 f1 st4
 generalize w4.setCell ⟨X,3,none⟩ (.int .i64 (g32 z (i + 8))) = w5 at st5 ⊢
 have hseg:Seg w5 w.heap.size (i + 12) 44 (fun j => z (i + 12 + j)):=by have:=st5.b.seg.sub (i + 12) 44 (by omega);rwa [Nat.zero_add] at this
 refine (tell_any (some ⟨w.heap.size,i + 12,none⟩) 44 _ _ _ (.inr ⟨_,_,rfl,hseg⟩) (fun h => by cases h) (by omega)).mono ?_
 rintro e w6 ⟨B,sa,cap',rfl,hnd,hb6,hB1,hB2,hsa⟩
 have hX5:=st5.x.lt
 have st6:=st5.below hb6
 have hX6:=st6.x.lt
 have hr6:=st6.r.lt
 clear st5 hseg
 go_wp2_with fail
 apply wp_rangeIx2 (gf:=94) (lb:=#[.pointer (some ⟨B,0,none⟩)]) rfl (enters_of Tryz.func94 (by kernel_rfl) rfl)
  (tell_iter 4 (by decide) B sa 44 cap' (fun j => z (i + 12 + j)) (fun j => hz _) (by omega)) (fun k => rfl)
  (fun k W => GetSt w z X (inoAt' z i k) W) (fun _ _ _ => False)
  (fun k => GetSt.local hr6 hX6)
  (fun c k => LocalP.pure _ _)
  (fun k => (LocalP.cell _ _ hB2).and (LocalP.row _ _ (fun x hx => (hsa x hx).2)))
  st6 hnd
 case assign =>
  intro l k W K hk hK
  dsimp only [tellEnc]
  gi_wp2
  exact hK
 case body =>
  rintro l k W hk hst hN
  have hk':k < 11:=by omega
  have c1:W.cell? ⟨X,4 + k,none⟩ = some (.int .u32 ((inoAt' z i k).p k)):=hst.x.ptr k hk'
  have f1:W.frozen? ⟨X,4 + k,none⟩ = false:=soft_of_heap hst.x (4 + k)
  have hq:(4 * (k:Int)).tdiv 4 = (k:Int):=Int.mul_tdiv_cancel_left _ (by decide)
  have hg:g32 (fun j => z (i + 12 + j)) (4 * k) = g32 z (i + 12 + 4 * k):=g32_shift z (i + 12) (4 * k)
  have st':=hst.set (y:=inoAt' z i (k + 1)) (4 + k) (.int .u32 (g32 z (i + 12 + 4 * k))) hs1 (arr_ptr z i k hk')
  have ho:=Only.setCell W ⟨X,4 + k,none⟩ (.int .u32 (g32 z (i + 12 + 4 * k)))
  rw [hg]
  clear hg
  gi_wp2
  exact ⟨ho.keeps c1,st',(ho.cell (p:=⟨B,0,none⟩) (by simp;omega)).trans hN.1,ho.row (fun x hx => by have:=hsa x hx;simp;omega) hN.2⟩
 case done =>
  rintro D W hD hst hK
  have hX7:=hst.x.lt
  go_wp2_with fail
  refine (own32 w.heap.size i z hz 56 56 W rfl (by omega) (by omega) hst.b).mono ?_
  rintro e w7 ⟨rfl,rfl⟩
  have c1:W.cell? ⟨X,15,none⟩ = some (.int .u32 0):=hst.x.cell (i:=15) rfl
  have f1:W.frozen? ⟨X,15,none⟩ = false:=soft_of_heap hst.x 15
  have st8:GetSt w z X (inoOf z i) _:=hst.set (y:=inoOf z i) 15 (.int .u32 (g32 z (i + 56))) hs1 rfl
  have hK8:(W.setCell ⟨X,15,none⟩ (.int .u32 (g32 z (i + 56)))).heap[D]? = some (.deferred (some [])):=by rw [Below.heap_setCell _ _ _ D (by simp;omega)];exact hK
  have hio:=inoOf_ok hz i
  go_wp2_with (first | (refine wp_loadIno rfl (.tmp 7) rfl X (inoOf z i) rfl st8.x ?_))
  clear c1 f1 hst hK
  generalize W.setCell ⟨X,15,none⟩ (.int .u32 (g32 z (i + 56))) = w8 at st8 hK8 ⊢
  refine (may_any (inoOf z i) hio w8).mono ?_
  rintro e w9 ⟨rfl,hb9⟩
  have st9:=st8.below hb9
  have hD8:D < w8.heap.size:=(Array.getElem?_eq_some_iff.1 hK8).1
  have hK9:w9.heap[D]? = some (.deferred (some [])):=(hb9.block D hD8).trans hK8
  have hDw:w.heap.size + 1 < D:=by omega
  clear hK8 st8 hb9
  by_cases hm:decide (inoOf z i).May = true
  ·have hg:Hid (getOkB z i = true):=by show _ = _;unfold getOkB;rw [HV.out,HZZ.out,hm];rfl
   rw [hm]
   clear hm
   have hx9:=st9.x
   have hr9:=st9.r
   go_wp2_with (first | (refine wp_loadIno rfl (.tmp 7) rfl X (inoOf z i) rfl hx9 ?_) | (refine wp_storeIno rfl (.tmp 4) (.tmp 79) rfl (w.heap.size + 1) (inoOf z i) .nil rfl rfl hr9 ?_))
   intro w10 hi10 ho10
   go_wp2_with fail
   have hK10:=(ho10.block D (by omega)).trans hK9
   refine bodyPostM_done (D:=D) hK10 (results_ino rfl _ _ (w.heap.size + 1) (inoOf z i) rfl ((World.putObj_heap_other (by omega)).trans hi10)) ⟨?_,below_putObj (st9.bel.trans (ho10.below (by omega))) _ (Nat.le_refl _) (by omega)⟩
   rw [getIno,getErr,HP.out,Int.toNat_natCast,hg.out];rfl
  ·rw [Bool.not_eq_true] at hm
   have hg:Hid (getOkB z i = false):=by show _ = _;unfold getOkB;rw [hm];simp
   rw [hm]
   clear hm
   have hr9:=st9.r
   go_wp2_with (first | (refine wp_storeIno rfl (.tmp 4) (.tmp 78) rfl (w.heap.size + 1) .nil .nil rfl rfl hr9 ?_))
   intro w10 hi10 ho10
   go_wp2_with fail
   have hK10:=(ho10.block D (by omega)).trans hK9
   refine bodyPostM_done (D:=D) hK10 (results_ino rfl _ _ (w.heap.size + 1) .nil rfl ((World.putObj_heap_other (by omega)).trans hi10)) ⟨?_,below_putObj (st9.bel.trans (ho10.below (by omega))) _ (Nat.le_refl _) (by omega)⟩
   rw [getIno,getErr,HP.out,Int.toNat_natCast,hg.out];rfl
 case stop =>
  rintro D c k W hD hk h hK
  exact h.elim
end Go.Proofs.YtphamecphmbipaaGreatDoor

namespace Go.Proofs.YtphamecphmbipaaGreatDoor
open Go.RowKit
set_option linter.unusedVariables false
section
attribute [local go_sem] Oper.semAt_some
theorem pthPointers_any (w:World):Calls Tryz.prog 141 #[] w fun e w' => e = .returned (.func (.func 161) #[] #[]) ∧ w = w':=by
 have hmf:∀ (fn:Fn) (first cap:Array Value) (w:World),(Instr.makeFunc fn first cap).run Tryz.prog w = .ok (.func fn first cap) w:=fun _ _ _ _ => rfl
 go_enter Tryz.func141,Tryz.ntmps141
 go_wp2_with fail
 go_ret
 exact ⟨rfl,rfl⟩
theorem fst_fstX {q:Nat} (hq:q ≤ 10):Im.fst q = fstX q:=by
 unfold Im.fst fstX
 by_cases h1:q < 9
 ·rw [if_pos h1,if_pos h1]
 ·rw [if_neg h1,if_neg h1]
  by_cases h2:q = 9
  ·rw [if_pos h2,if_pos h2]
  ·rw [if_neg h2,if_neg h2,if_pos (by omega)]
structure FrS (w:World) (q r:Int) (W:World):Prop where
 q:At W w.heap.size 3 #[.int .i64 q]
 r:At W (w.heap.size + 1) 3 #[.int .i64 r]
 bel:Below w.heap.size w W
theorem FrS.loc {w:World} {q r:Int} {B:Nat} (hB:w.heap.size + 1 < B):LocalP B (FrS w q r):=fun A C h hg =>
 ⟨LocalP.heap _ (by omega) A C h.q hg,LocalP.heap _ hB A C h.r hg,LocalP.below w (by omega) (Nat.le_refl _) A C h.bel hg⟩
theorem pthFirst_any (q:Nat) (hq:q ≤ 10) (w:World):Calls Tryz.prog 132 #[.int .i64 (q:Int)] w fun e w' => e = .returned (.int .i64 ((Im.fst q:Nat):Int)) ∧ Below w.heap.size w w':=by
 refine (callsIn_wide (n:=5)).1 (callsIn_of_wp_marks Tryz.func132 rfl trivial ?_ rfl)
 refine wpIn_wide.2 ?_
 simp only [Tryz.ntmps132,List.size_toArray,List.length_cons,List.length_nil,Nat.reduceAdd,Nat.reduceSub,Array.replicate_succ,Array.replicate_zero,List.push_toArray,List.append_toArray,List.nil_append,List.cons_append]
 have st0:FrS w (q:Int) 0 ((w.alloc (.cells #[.int .i64 (q:Int)] 3)).alloc (.cells #[.int .i64 0] 3)):=by
  refine ⟨(At.new w _ _).alloc _,?_,((Below.refl _ _).alloc (Nat.le_refl _) _).alloc (by simp) _⟩
  have:=At.new (w.alloc (.cells #[.int .i64 (q:Int)] 3)) 3 #[.int .i64 0]
  rwa [World.size_alloc] at this
 have HFX:Hid (Im.fst q = fstX q):=fst_fstX hq
 have ST0:=Lib.hid st0
 clear st0
 go_wp2_with fail
 refine (pthPointers_any _).mono ?_
 rintro e w1 ⟨rfl,rfl⟩
 go_wp2_with fail
 apply wp_rangeIx2 (gf:=161) (lb:=#[]) rfl (enters_of Tryz.func161 (by kernel_rfl) rfl)
  (pointers_iter 4 (by decide)) (fun k => rfl)
  (fun k W => k ≤ q ∧ FrS w (q:Int) 0 W) (fun c k W => c = .ret ∧ FrS w (q:Int) ((fstX q:Nat):Int) W)
  (fun k => (LocalP.pure _ _).and (FrS.loc (by simp)))
  (fun c k => (LocalP.pure _ _).and (FrS.loc (by simp)))
  (fun k => LocalP.pure _ True)
  ⟨Nat.zero_le _,ST0.out⟩ trivial
 case assign =>
  intro l k W K hk hK
  dsimp only [ptEnc]
  gi_wp2
  exact hK
 case body =>
  rintro l k W hk ⟨hkq,st⟩ _
  have c0:W.cell? ⟨w.heap.size,0,none⟩ = some (.int .i64 (q:Int)):=st.q.cell (i:=0) rfl
  have c1:W.cell? ⟨w.heap.size + 1,0,none⟩ = some (.int .i64 0):=st.r.cell (i:=0) rfl
  have f1:W.frozen? ⟨w.heap.size + 1,0,none⟩ = false:=soft_of_heap st.r 0
  by_cases he:k = q
  ·subst he
   have q1:((k:Int) == (k:Int)) = true:=by simp
   have ho:=Only.setCell W ⟨w.heap.size + 1,0,none⟩ (.int .i64 ((fstX k:Nat):Int))
   have HF:Hid (KeepsFrom ((w.alloc (.cells #[.int .i64 (k:Int)] 3)).alloc (.cells #[.int .i64 0] 3)).heap.size W (W.setCell ⟨w.heap.size + 1,0,none⟩ (.int .i64 ((fstX k:Nat):Int))) ∧ FrS w (k:Int) ((fstX k:Nat):Int) (W.setCell ⟨w.heap.size + 1,0,none⟩ (.int .i64 ((fstX k:Nat):Int)))) :=
    ⟨ho.keeps c1,st.q.only ho (by simp),heap_setCell_at st.r 0 _,st.bel.trans (ho.below (by simp))⟩
   clear st ho
   gi_wp2
   exact ⟨HF.out.1,rfl,HF.out.2⟩
  ·have q1:((k:Int) == (q:Int)) = false:=by simp;omega
   have ST:=Lib.hid st
   have hk1:k + 1 ≤ q:=by omega
   clear st he
   gi_wp2
   exact ⟨KeepsFrom.refl _ _,⟨hk1,ST.out⟩,trivial⟩
 case done =>
  rintro D W hD ⟨h,_⟩ _
  omega
 case stop =>
  rintro D c k W hD hk ⟨rfl,st⟩ hK
  have hr:=st.r.cell (i:=0) (v:=.int .i64 ((fstX q:Nat):Int)) rfl
  have hb:=st.bel
  have hDw:w.heap.size ≤ D:=by simp at hD;omega
  have hr2:=cell_putObj (D:=D) (o':=.deferred none) hK rfl hr
  go_wp2_with fail
  refine bodyPostM_done (v:=.int .i64 ((fstX q:Nat):Int)) (D:=D) hK ?_ ⟨by rw [HFX.out],below_putObj hb _ (Nat.le_refl _) hDw⟩
  simp [results,Tryz.f132,go_sem,hr2]
end
end Go.Proofs.YtphamecphmbipaaGreatDoor
