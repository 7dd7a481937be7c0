/- Texts of this claim, merged. -/
import Derived.Test.YtphamecphmbipaaGreatDoorK10
import Derived.OrdersIn
namespace Go.Proofs.YtphamecphmbipaaGreatDoor
open Go.RowKit
set_option linter.unusedVariables false
def dH (b i d:Nat → Int):Nat → Nat → Int
 | 0 => fun _ => 0
 | k + 1 => upd (upd (upd (dH b i d k) (4 * k) (b k)) (4 * k + 1) (i k)) (4 * k + 2) (d k)
def descOk (G S I J:Int) (n:Nat) (b i d:Nat → Int):Bool:=mayG G S I J && mayD G S I J n b i d
def descE (G S I J:Int) (n:Nat) (b i d:Nat → Int):Int:=if mayG G S I J then (if mayD G S I J n b i d then 0 else 2) else 50
def descZ (G S I J:Int) (n:Nat) (b i d:Nat → Int):Nat → Int:=if descOk G S I J n b i d then sealZ (hz (dH b i d n)) else fun _ => 0
theorem mayD_iff {G S I J:Int} {n:Nat} {b i d:Nat → Int} (hm:mayG G S I J = true) (h:mayD G S I J n b i d = true):(n:Int) = G ∧ n ≤ 4 ∧ ∀ k,k < n → (0 ≤ b k ∧ b k ≤ 512) ∧ (0 ≤ i k ∧ i k ≤ 64) ∧ (0 ≤ d k ∧ d k ≤ 64):=by
 unfold mayD at h
 rw [Bool.and_eq_true,decide_eq_true_eq,allB_iff] at h
 obtain ⟨h1,h2,h3,h4,h5,h6,h7,h8,h9,h10,h11⟩:=(mayG_iff G S I J).1 hm
 have:=nDa_bd G S I J
 refine ⟨h.1,by omega,fun k hk => ?_⟩
 have:=(okD_iff _ _ _ _ _).1 (h.2 k hk)
 omega
def b8 (a b c d e f g h:Bool):Nat:=a.toNat + 2 * b.toNat + 4 * c.toNat + 8 * d.toNat + 16 * e.toNat + 32 * f.toNat + 64 * g.toNat + 128 * h.toNat
def by8 (P:Nat → Bool) (k:Nat):Nat:=b8 (P (8 * k)) (P (8 * k + 1)) (P (8 * k + 2)) (P (8 * k + 3)) (P (8 * k + 4)) (P (8 * k + 5)) (P (8 * k + 6)) (P (8 * k + 7))
def bZ (P:Nat → Bool) (k:Nat):Int:=(by8 P k:Nat)
theorem b8_lt:∀ a b c d e f g h:Bool,b8 a b c d e f g h < 256:=by decide
theorem by8_lt (P:Nat → Bool) (k:Nat):by8 P k < 256:=b8_lt _ _ _ _ _ _ _ _
theorem bZ_byt (P:Nat → Bool):Byt (bZ P):=fun i => by have:=by8_lt P i;unfold bZ;omega
def setB (P:Nat → Bool) (i:Nat):Nat → Bool:=fun j => if j = i then true else P j
theorem an0:∀ a b c d e f g h:Bool,(b8 a b c d e f g h &&& 1) = 1 * a.toNat:=by decide
theorem an1:∀ a b c d e f g h:Bool,(b8 a b c d e f g h &&& 2) = 2 * b.toNat:=by decide
theorem an2:∀ a b c d e f g h:Bool,(b8 a b c d e f g h &&& 4) = 4 * c.toNat:=by decide
theorem an3:∀ a b c d e f g h:Bool,(b8 a b c d e f g h &&& 8) = 8 * d.toNat:=by decide
theorem an4:∀ a b c d e f g h:Bool,(b8 a b c d e f g h &&& 16) = 16 * e.toNat:=by decide
theorem an5:∀ a b c d e f g h:Bool,(b8 a b c d e f g h &&& 32) = 32 * f.toNat:=by decide
theorem an6:∀ a b c d e f g h:Bool,(b8 a b c d e f g h &&& 64) = 64 * g.toNat:=by decide
theorem an7:∀ a b c d e f g h:Bool,(b8 a b c d e f g h &&& 128) = 128 * h.toNat:=by decide
theorem by8_and (P:Nat → Bool) (k j:Nat) (hj:j < 8):by8 P k &&& 2 ^ j = 2 ^ j * (P (8 * k + j)).toNat:=by
 unfold by8
 have:j = 0 ∨ j = 1 ∨ j = 2 ∨ j = 3 ∨ j = 4 ∨ j = 5 ∨ j = 6 ∨ j = 7:=by omega
 rcases this with rfl | rfl | rfl | rfl | rfl | rfl | rfl | rfl
 ·exact an0 _ _ _ _ _ _ _ _
 ·exact an1 _ _ _ _ _ _ _ _
 ·exact an2 _ _ _ _ _ _ _ _
 ·exact an3 _ _ _ _ _ _ _ _
 ·exact an4 _ _ _ _ _ _ _ _
 ·exact an5 _ _ _ _ _ _ _ _
 ·exact an6 _ _ _ _ _ _ _ _
 ·exact an7 _ _ _ _ _ _ _ _
theorem bZ_none (k:Nat):bZ (fun _ => false) k = 0:=rfl
end Go.Proofs.YtphamecphmbipaaGreatDoor

namespace Go.Proofs.YtphamecphmbipaaGreatDoor.Mv
open Go.RowKit Go.Proofs.YtphamecphmbipaaGreatDoor
set_option linter.unusedVariables false
def reachB (md:Region.Mode) (ops:Array Oper):Nat → Nat → Nat → Bool
 | 0,_,_ => false
 | fuel + 1,j,i => match ops[j]? with
  | none => false
  | some oj => oj.after.any fun e => Region.binds md e && (e.on == i || reachB md ops fuel e.on i)
def chainC (md:Region.Mode) (ops:Array Oper):Bool :=
 (List.range ops.size).all fun j => (List.range j).all fun i => match ops[j]?,ops[i]? with
  | some oj,some oi => !(mv oi && mv oj) || reachB md ops ops.size j i
  | _,_ => true
section
variable {P:Program} {ops:Array Oper} {md:Region.Mode} {σ:Type} {C:σ → World → Prop}
theorem chainC_spec (h:chainC md ops = true) {i j:Nat} {oi oj:Oper} (hi:ops[i]? = some oi) (hj:ops[j]? = some oj) (ci:mv oi = true) (cj:mv oj = true) (hij:i < j):reachB md ops ops.size j i = true:=by
 unfold chainC at h
 rw [List.all_eq_true] at h
 have h1:=h j (List.mem_range.2 (Array.getElem?_eq_some_iff.1 hj).1)
 rw [List.all_eq_true] at h1
 have h2:=h1 i (List.mem_range.2 hij)
 rw [hi,hj] at h2
 simpa only [ci,cj,Bool.and_true,Bool.not_true,Bool.false_or] using h2
def Cl (md:Region.Mode) (ops:Array Oper) (listed:Array Bool):Prop:=∀ j oj,ops[j]? = some oj → listed.getD j false = true → ∀ e ∈ oj.after,Region.binds md e = true → listed.getD e.on false = true
theorem Cl.next {listed:Array Bool} (h:Cl md ops listed) {j:Nat} (hj:j ∈ Region.ready md ops listed):Cl md ops (listed.setIfInBounds j true):=by
 intro k ok hk hl e he hb
 obtain ⟨hun,oj,hoj,hall⟩:=mem_ready.1 hj
 refine getD_set_true ?_
 by_cases hjk:j = k
 ·subst hjk
  rw [hoj] at hk;cases hk
  exact hall e he hb
 ·rw [getD_set_ne false hjk] at hl
  exact h k ok hk hl e he hb
theorem Cl.reach {listed:Array Bool} (h:Cl md ops listed):∀ {fuel j i:Nat} {oj:Oper},(∀ e ∈ oj.after,Region.binds md e = true → listed.getD e.on false = true) → ops[j]? = some oj → reachB md ops fuel j i = true → listed.getD i false = true
 | 0,_,_,_,_,_,hr => by cases hr
 | fuel + 1,j,i,oj,hall,hj,hr => by
  unfold reachB at hr
  rw [hj] at hr
  simp only [Array.any_eq_true',Bool.and_eq_true,Bool.or_eq_true,beq_iff_eq] at hr
  obtain ⟨e,he,hb,hr⟩:=hr
  have h1:=hall e he hb
  rcases hr with rfl | hr
  ·exact h1
  ·cases ho:ops[e.on]? with
   | none =>
    cases fuel with
    | zero => cases hr
    | succ f => unfold reachB at hr;rw [ho] at hr;cases hr
   | some oe => exact Cl.reach h (h _ oe ho h1) ho hr
theorem wpAnyL_firstC (hex:∀ f args w (R':Ending → World → Prop),Calls P f args w R' → ∃ e w',R' e w') (hch:chainC md ops = true) {Q:σ → Act → Prop} {i:Nat} {oi:Oper} (hi:ops[i]? = some oi) (hsel:∀ (j:Nat) (o:Oper) cs b,ops[j]? = some o → o.op ≠ .select cs b) :
  ∀ (fuel:Nat) (listed:Array Bool) (s:σ) (a:Act),NE C s → Cl md ops listed → (∀ j,j < i → listed.getD j true = true) →
   (∀ j oj,ops[j]? = some oj → j ≠ i → listed.getD j true = false → (∀ e ∈ oj.after,Region.binds md e = true → e.on ≠ i) → oi.apart ops oj = true) →
   i ∈ Region.ready md ops listed → LX P ops C oi a s (wpAnyL P md ops C Q fuel (listed.setIfInBounds i true)) → wpAnyL P md ops C Q (fuel + 1) listed s a:=by
 intro fuel
 induction fuel with
 | zero =>
  intro listed s a hne _ _ _ hr H
  refine ⟨fun h => (by rw [h] at hr;cases hr),fun j hj => ?_⟩
  by_cases hji:j = i
  ·subst hji;exact H.linOp hi
  ·have h1:=ready_mono hj hji
   have h2:Region.ready md ops (listed.setIfInBounds i true) = []:=by
    obtain ⟨w0,hC0⟩:=hne
    rcases H with ⟨_,⟨_,hk⟩ | ⟨_,v,_,hk⟩⟩ | ⟨_,hk⟩
    ·obtain ⟨_,_,s',_,hL⟩:=movesUpon_some (hk w0 hC0) hex
     exact hL.1
    ·exact hk.1
    ·exact hk.1
   rw [h2] at h1
   cases h1
 | succ fuel ih =>
  intro listed s a hne hpre hlow hfree hr H
  refine ⟨fun h => (by rw [h] at hr;cases hr),fun j hj => ?_⟩
  by_cases hji:j = i
  ·subst hji;exact H.linOp hi
  ·have H1:LX P ops C oi a s (fun s1 a1 => Mv.linOp P ops C j (wpAnyL P md ops C Q fuel ((listed.setIfInBounds i true).setIfInBounds j true)) s1 a1) :=
    H.mono hne fun s1 a1 _ h => h.2 j (ready_mono hj hji)
   obtain ⟨hjun,oj,hoj,hall⟩:=mem_ready.1 hj
   have hnot:∀ e ∈ oj.after,Region.binds md e = true → e.on ≠ i:=fun e he hb heq => by
    have h1:=hall e he hb
    have h0:=getD_both (mem_ready.1 hr).1
    rw [heq,h0] at h1
    cases h1
   have hij:i < j:=by
    rcases Nat.lt_or_ge j i with h' | h'
    ·rw [hlow j h'] at hjun;cases hjun
    ·omega
   have hcc:mv oi = false ∨ mv oj = false:=by
    cases ci:mv oi with
    | false => exact .inl rfl
    | true =>
     refine .inr ?_
     cases cj:mv oj with
     | false => rfl
     | true =>
      have h0:=getD_both (mem_ready.1 hr).1
      have:=hpre.reach hall hoj (chainC_spec hch hi hoj ci cj hij)
      rw [h0] at this;cases this
   have h2:=linOp_put hex hoj (hfree j oj hoj hji hjun hnot) (fun cs b => hsel i oi cs b hi) (fun cs b => hsel j oj cs b hoj) hcc hne H1
   have hfree':∀ k ok,ops[k]? = some ok → k ≠ i → (listed.setIfInBounds j true).getD k true = false →
     (∀ e ∈ ok.after,Region.binds md e = true → e.on ≠ i) → oi.apart ops ok = true:=fun k ok hk hki hun hno => by
    refine hfree k ok hk hki ?_ hno
    by_cases hjk:j = k
    ·subst hjk;exact hjun
    ·rw [getD_set_ne true hjk] at hun;exact hun
   have hlow':∀ m,m < i → (listed.setIfInBounds j true).getD m true = true:=fun m hm => by rw [getD_set_ne true (by omega)];exact hlow m hm
   refine linOp_mono hne (fun s' a' hne' h3 => ?_) h2
   refine ih (listed.setIfInBounds j true) s' a' hne' (hpre.next hj) hlow' hfree' (ready_mono hr (Ne.symm hji)) ?_
   rw [Array.setIfInBounds_comm _ _ hji]
   exact h3
theorem wpAnyL_lexC (hex:∀ f args w (R':Ending → World → Prop),Calls P f args w R' → ∃ e w',R' e w') (hch:chainC md ops = true) {Q:σ → Act → Prop} (hs:Region.noSelect ops = true):∀ (l:List Oper) (n:Nat) (listed:Array Bool) (s:σ) (a:Act),NE C s → Cl md ops listed → (∀ j,j < n → listed.getD j true = true) → (∀ j,l[j]? = ops[n + j]?) →
  Region.lexFrom md ops l.length n listed = true → wpLin P ops C Q l s a → wpAnyL P md ops C Q l.length listed s a
 | [],_,_,_,_,_,_,_,_,hB,h => ⟨by simpa [Region.lexFrom] using hB,h⟩
 | o :: l,n,listed,s,a,hne,hpre,hlow,hl,hB,h => by
  have h0:ops[n]? = some o:=by simpa using (hl 0).symm
  simp only [List.length_cons,Region.lexFrom,Bool.and_eq_true] at hB
  obtain ⟨⟨hr,hf⟩,hB'⟩:=hB
  have hr':n ∈ Region.ready md ops listed:=by simpa using hr
  refine wpAnyL_firstC hex hch h0 (Region.noSelect_spec hs) l.length listed s a hne hpre hlow (Region.free_spec h0 hf) hr' ?_
  refine LX.mono hne (fun s' a' hne' h' => ?_) h
  refine wpAnyL_lexC hex hch hs l (n + 1) _ _ _ hne' (hpre.next hr') (fun j hj => ?_) (fun j => by have:=hl (j + 1);simpa [Nat.add_assoc,Nat.add_comm 1 j] using this) hB' h'
  by_cases hjn:n = j
  ·subst hjn
   rcases Nat.lt_or_ge n listed.size with h' | h'
   ·simp [h']
   ·simp [h']
  ·rw [getD_set_ne true hjn];exact hlow j (by omega)
theorem wp_region_mc (C:σ → World → Prop) (s:σ) {id:Nat} {Q:Exit → Act → World → Prop} {a:Act} {w:World} {l:List Oper} (hm:P.follows .mixedOrders = true) (hB:Region.lexB .any l.toArray = true) (hch:chainC .any l.toArray = true) (hC:C s { w with drawn:=w.drawn + 1 })
  (h:Nonempty (InW fun w => ∃ s,C s w) → wpLin P l.toArray C (fun s a' => ∀ w',C s w' → Q .normal a' w') l s a):(Code.region id l.toArray true).wp P Q a w:=by
 simp only [Region.lexB,Bool.and_eq_true] at hB
 refine wp_region_any hm (wpAny_of_lin (Q:=fun s a' => ∀ w',C s w' → Q .normal a' w') (fun _ _ w' hw' h => h w' hw') _ _ s _ _ hC ?_)
 have:=wpAnyL_lexC (C:=C) (md:=.any) calls_some hch hB.1 l 0 (Array.replicate l.toArray.size false) s a ⟨_,hC⟩ (fun j oj hj hl => by
   rcases Nat.lt_or_ge j l.toArray.size with h' | h'
   ·rw [List.size_toArray] at h';simp [h'] at hl
   ·rw [List.size_toArray] at h';simp [h'] at hl) (fun j hj => by omega) (by simp) (by simpa using hB.2) (h ⟨⟨_,s,hC⟩⟩)
 simpa using this
theorem lin_call {Q:σ → Act → Prop} {s:σ} {o:Oper} {rest:List Oper} {a:Act} (hw:Region.wanted o (yielded ops a.tmps) = true) (hm:mv o = true) (f:FuncId) (args:Array Value) (u:Value) (s':σ)
  (hrun:∀ W,(execOp a.eval o).run P W = .ok (.enter f args) W) (hcall:∀ W,C s W → Calls P f args W fun e w' => e = .returned u ∧ C s' w') (hk:wpLin P ops C Q rest s' (a.put o.dst u)):wpLin P ops C Q (o :: rest) s a :=
 lin_move hw hm fun w hC => by
  rw [hrun]
  exact (hcall w hC).mono fun e w' h => ⟨u,h.1,s',h.2,hk⟩
end
end Go.Proofs.YtphamecphmbipaaGreatDoor.Mv

namespace Go.Proofs.YtphamecphmbipaaGreatDoor
open Go.RowKit
set_option linter.unusedVariables false
def barB2 (md:Region.Mode) (n:Nat) (ops:Array Oper):Bool :=
 (List.range ops.size).all fun j => match ops[j]? with
  | none => true
  | some o => if j < n then (match o.guard with | none => true | some (g,_) => decide (g < n)) else (List.range j).all fun i => Mv.reachB md ops ops.size j i
section
variable {P:Program} {md:Region.Mode} {ops:Array Oper}
theorem barB_wait2 {n:Nat} (h:barB2 md n ops = true) {j:Nat} {o:Oper} (hj:ops[j]? = some o) (hn:n ≤ j) {i:Nat} (hi:i < j):Mv.reachB md ops ops.size j i = true:=by
 unfold barB2 at h
 rw [List.all_eq_true] at h
 have h1:=h j (List.mem_range.2 (Array.getElem?_eq_some_iff.1 hj).1)
 simp only [hj,if_neg (show ¬ j < n by omega),List.all_eq_true] at h1
 exact h1 i (List.mem_range.2 hi)
theorem barB_guard2 {n:Nat} (h:barB2 md n ops = true) {j:Nat} {o:Oper} (hj:ops[j]? = some o) (hn:j < n) {g:Nat} {b:Bool} (hg:o.guard = some (g,b)):g < n:=by
 unfold barB2 at h
 rw [List.all_eq_true] at h
 have h1:=h j (List.mem_range.2 (Array.getElem?_eq_some_iff.1 hj).1)
 simp only [hj,if_pos hn,hg,decide_eq_true_eq] at h1
 exact h1
theorem bar_tail2 {n:Nat} (hb:barB2 md n ops = true) (hd:downB md ops = true) {Q:Exit → Act → World → Prop}:∀ (l:List Oper) (k x:Nat) (listed:Array Bool) (a:Act) (w:World),n ≤ k → (∀ j,l[j]? = ops[k + j]?) → listed.size = ops.size →
  (∀ i,i < k → listed.getD i false = true) → (∀ i,k ≤ i → i < ops.size → listed.getD i true = false) → wpList P ops Q l a w → wpAny P md ops Q (l.length + x) listed a w
 | [],k,x,listed,a,w,hk,hl,hs,h1,h0,h => by
  have hsz:ops.size ≤ k:=by have:=(hl 0).symm;simp at this;omega
  have hr:Region.ready md ops listed = []:=by
   cases hr:Region.ready md ops listed with
   | nil => rfl
   | cons i r =>
    have hi:i ∈ Region.ready md ops listed:=by rw [hr];simp
    obtain ⟨hu,o,ho,_⟩:=mem_ready.1 hi
    have hlt:=(Array.getElem?_eq_some_iff.1 ho).1
    have:=h1 i (by omega)
    rw [Array.getD_eq_getD_getElem?,Array.getElem?_eq_getElem (by omega)] at hu this
    simp at hu this
    rw [this] at hu;cases hu
  cases x with
  | zero => exact ⟨hr,h⟩
  | succ x =>
   rw [show ([]:List Oper).length + (x + 1) = x + 1 by simp]
   exact ⟨fun _ => h,fun i hi => by rw [hr] at hi;cases hi⟩
 | o :: l,k,x,listed,a,w,hk,hl,hs,h1,h0,h => by
  have ho:ops[k]? = some o:=by simpa using (hl 0).symm
  have hlt:=(Array.getElem?_eq_some_iff.1 ho).1
  have hin:k ∈ Region.ready md ops listed:=mem_ready.2 ⟨h0 k (Nat.le_refl _) hlt,o,ho,fun e he hbe => h1 _ (downB_spec hd ho he hbe)⟩
  rw [show (o :: l).length + x = (l.length + x) + 1 by simp;omega]
  refine ⟨fun hr => (by rw [hr] at hin;cases hin),fun i hi => ?_⟩
  obtain ⟨hu,oi,hoi,hall⟩:=mem_ready.1 hi
  have hilt:=(Array.getElem?_eq_some_iff.1 hoi).1
  have hik:i = k:=by
   rcases Nat.lt_trichotomy i k with hh | hh | hh
   ·have:=h1 i hh
    rw [Array.getD_eq_getD_getElem?,Array.getElem?_eq_getElem (by omega)] at hu this
    simp at hu this
    rw [this] at hu;cases hu
   ·exact hh
   ·have hcl:Mv.Cl md ops listed:=fun j oj hj hlj e he hbe => by
     have hjk:j < k:=by
      rcases Nat.lt_or_ge j k with h' | h'
      ·exact h'
      ·have h2:=h0 j h' (Array.getElem?_eq_some_iff.1 hj).1
       rw [Array.getD_eq_getD_getElem?,Array.getElem?_eq_getElem (by have:=(Array.getElem?_eq_some_iff.1 hj).1;omega)] at h2 hlj
       simp at h2 hlj
       rw [h2] at hlj;cases hlj
     have:=downB_spec hd hj he hbe
     exact h1 _ (by omega)
    have hx:=hcl.reach hall hoi (barB_wait2 hb hoi (by omega) hh)
    have h2:=h0 k (Nat.le_refl _) hlt
    rw [Array.getD_eq_getD_getElem?,Array.getElem?_eq_getElem (by omega)] at hx h2
    simp at hx h2
    rw [hx] at h2;cases h2
  subst hik
  have key:wpOp P ops Q i (wpList P ops Q l) a w:=by
   unfold wpOp
   simp only [ho]
   exact h
  refine wpOp_mono (fun a' w' h' => bar_tail2 hb hd l (i + 1) x _ a' w' (by omega) (fun j => by have:=hl (j + 1);simpa [Nat.add_assoc,Nat.add_comm 1 j] using this) (by simpa using hs) (fun j hj => ?_) (fun j hj hjs => ?_) h') key
  ·by_cases hji:j = i
   ·subst hji;simp [Array.getD_eq_getD_getElem?,hs,hlt]
   ·rw [Array.getD_eq_getD_getElem?,Array.getElem?_setIfInBounds_ne (Ne.symm hji),← Array.getD_eq_getD_getElem?];exact h1 j (by omega)
  ·rw [Array.getD_eq_getD_getElem?,Array.getElem?_setIfInBounds_ne (by omega),← Array.getD_eq_getD_getElem?];exact h0 j (by omega) hjs
theorem bar_head2 {n:Nat} {ops1:Array Oper} {l2:List Oper} {C:World → Prop} (hb:barB2 md n ops = true) (hd:downB md ops = true) (hd1:downB md ops1 = true) (hn1:ops1.size = n) (h1:∀ i,i < n → ops1[i]? = ops[i]?) (hl:∀ j,l2[j]? = ops[n + j]?)
  {Q:Exit → Act → World → Prop} {Q1:Act → Prop} (hQ:∀ a w,C w → Q1 a → wpList P ops Q l2 a w):∀ (fuel:Nat) (listed1 listed:Array Bool) (a:Act) (w:World),C w → Mv.Cl md ops listed → listed1.size = n → listed.size = ops.size →
   (∀ i,i < n → listed1[i]? = listed[i]?) → (∀ i,n ≤ i → i < ops.size → listed.getD i true = false) → wpAnyQ P md ops1 C Q1 fuel listed1 a → wpAny P md ops Q (l2.length + fuel) listed a w:=by
 have hnn:n ≤ ops.size:=by
  rcases Nat.lt_or_ge ops.size n with h | h
  ·have:=h1 ops.size h
   rw [Array.getElem?_eq_none (Nat.le_refl _),Array.getElem?_eq_none_iff] at this
   omega
  ·exact h
 have done:∀ (fuel:Nat) (listed1 listed:Array Bool) (a:Act) (w:World),C w → listed1.size = n → listed.size = ops.size → (∀ i,i < n → listed1[i]? = listed[i]?) → (∀ i,n ≤ i → i < ops.size → listed.getD i true = false) →
   Region.ready md ops1 listed1 = [] → Q1 a → wpAny P md ops Q (l2.length + fuel) listed a w:=fun fuel listed1 listed a w hw hs1 hs hll h0 hr hq => by
  refine bar_tail2 hb hd l2 n fuel listed a w (Nat.le_refl _) hl hs (fun i hi => ?_) h0 (hQ a w hw hq)
  have:=ready_nil hd1 (by omega) hr i (by omega)
  rw [Array.getD_eq_getD_getElem?,hll i hi,← Array.getD_eq_getD_getElem?] at this
  exact this
 intro fuel
 induction fuel with
 | zero => intro listed1 listed a w hw hcl hs1 hs hll h0 h;exact done 0 listed1 listed a w hw hs1 hs hll h0 h.1 h.2
 | succ fuel ih =>
  intro listed1 listed a w hw hcl hs1 hs hll h0 h
  by_cases hr:Region.ready md ops1 listed1 = []
  ·exact done _ listed1 listed a w hw hs1 hs hll h0 hr (h.1 hr)
  ·obtain ⟨i0,hi0⟩:=List.exists_mem_of_ne_nil _ hr
   obtain ⟨hu0,o0,ho0,hall0⟩:=mem_ready.1 hi0
   have hi0n:i0 < n:=by rw [← hn1];exact (Array.getElem?_eq_some_iff.1 ho0).1
   have get:∀ i,i < n → ∀ d,listed1.getD i d = listed.getD i d:=fun i hi d => by rw [Array.getD_eq_getD_getElem?,Array.getD_eq_getD_getElem?,hll i hi]
   have up:i0 ∈ Region.ready md ops listed:=mem_ready.2 ⟨by rw [← get i0 hi0n];exact hu0,o0,by rw [← h1 i0 hi0n];exact ho0,fun e he hbe => by
    have hlt:=downB_spec hd1 ho0 he hbe
    rw [← get e.on (by omega)];exact hall0 e he hbe⟩
   rw [show l2.length + (fuel + 1) = (l2.length + fuel) + 1 by omega]
   refine ⟨fun hrr => (by rw [hrr] at up;cases up),fun i hi => ?_⟩
   obtain ⟨hu,o,ho,hall⟩:=mem_ready.1 hi
   have hin:i < n:=by
    rcases Nat.lt_or_ge i n with hh | hh
    ·exact hh
    ·have hx:=hcl.reach hall ho (barB_wait2 hb ho hh (i:=i0) (by omega))
     rw [← get i0 hi0n] at hx
     rw [Array.getD_eq_getD_getElem?,Array.getElem?_eq_getElem (by omega)] at hx hu0
     simp at hx hu0
     rw [hx] at hu0;cases hu0
   have ho1:ops1[i]? = some o:=by rw [h1 i hin];exact ho
   have hi1:i ∈ Region.ready md ops1 listed1:=mem_ready.2 ⟨by rw [get i hin];exact hu,o,ho1,fun e he hbe => by
    have hlt:=downB_spec hd1 ho1 he hbe
    rw [get e.on (by omega)];exact hall e he hbe⟩
   have hq:=h.2 i hi1
   have hwant:∀ a:Act,Region.wanted o (yielded ops1 a.tmps) = Region.wanted o (yielded ops a.tmps):=fun a => by
    unfold Region.wanted
    cases hg:o.guard with
    | none => rfl
    | some p =>
     obtain ⟨g,b⟩:=p
     have:=barB_guard2 hb ho hin hg
     simp only [yielded,h1 g this]
   have hq':qOp P ops C i (wpAnyQ P md ops1 C Q1 fuel (listed1.setIfInBounds i true)) a:=by
    unfold qOp at hq ⊢
    simp only [ho1] at hq
    simp only [ho]
    rw [← hwant]
    exact hq
   refine wpOp_of_qOp hw (fun a' w' hw' h' => ih (listed1.setIfInBounds i true) (listed.setIfInBounds i true) a' w' hw' (hcl.next hi) (by simpa using hs1) (by simpa using hs) (fun j hj => ?_) (fun j hj hjs => ?_) h') hq'
   ·by_cases hji:i = j
    ·subst hji;simp [hs1,hs,hj,show i < ops.size by omega]
    ·rw [Array.getElem?_setIfInBounds_ne hji,Array.getElem?_setIfInBounds_ne hji];exact hll j hj
   ·rw [Array.getD_eq_getD_getElem?,Array.getElem?_setIfInBounds_ne (by omega),← Array.getD_eq_getD_getElem?];exact h0 j hj hjs
theorem wp_region_bar2 (S:World → Prop) (n:Nat) {id:Nat} {Q:Exit → Act → World → Prop} {a:Act} {w:World} {L:List Oper} (hm:P.follows .mixedOrders = true) (hB:Region.lexB .any (L.take n).toArray = true)
  (hb:barB2 .any n L.toArray = true) (hd:downB .any L.toArray = true) (hd1:downB .any (L.take n).toArray = true) (hn:n ≤ L.length) (hS:S { w with drawn:=w.drawn + 1 })
  (h:Nonempty (InW S) → wpQuiet P (L.take n).toArray (fun w' => ∃ s:InW S,w' = s.W) (fun a' => ∀ w',InS S w' → wpList P L.toArray Q (L.drop n) a' w') (L.take n) a):(Code.region id L.toArray true).wp P Q a w:=by
 have hC:∃ s:InW S,{ w with drawn:=w.drawn + 1 } = s.W:=⟨⟨_,hS⟩,rfl⟩
 simp only [Region.lexB,Bool.and_eq_true] at hB
 have hq:=wpAnyQ_lex (C:=fun w' => ∃ s:InW S,w' = s.W) (md:=.any) hB.1 (L.take n) 0 (Array.replicate n false) a (by simp) (by have:=hB.2;simpa [Nat.min_eq_left hn] using this) (h ⟨⟨_,hS⟩⟩)
 have hlen:(L.take n).length = n:=by simp [Nat.min_eq_left hn]
 rw [hlen] at hq
 have:=bar_head2 (P:=P) (md:=.any) (ops:=L.toArray) (ops1:=(L.take n).toArray) (l2:=L.drop n) (n:=n) (C:=fun w' => ∃ s:InW S,w' = s.W) hb hd hd1 (by simp [Nat.min_eq_left hn]) (fun i hi => by simp [hi]) (fun j => by simp)
  (Q:=Q) (Q1:=fun a' => ∀ w',InS S w' → wpList P L.toArray Q (L.drop n) a' w') (fun a w hw h => h w hw) n (Array.replicate n false) (Array.replicate L.length false) a { w with drawn:=w.drawn + 1 } hC (fun j oj hj hl e he hbe => by
   rcases Nat.lt_or_ge j L.length with h' | h'
   ·simp [h'] at hl
   ·simp [h'] at hl) (by simp) (by simp)
  (fun i hi => by simp [hi,show i < L.length by omega]) (fun i hi hs => by simp at hs;simp [hs]) hq
 rw [show (L.drop n).length + n = L.length by simp;omega] at this
 refine wp_region_any hm ?_
 simpa using this
end
theorem bitIs_any (i:Nat) (hi:i < 2048) (w:World):Calls Tryz.prog 45 #[.int .i64 (i:Int)] w fun e w' => e = .returned (.bool true) ∧ w = w':=by
 have h1:(i:Int) < 2048:=by omega
 have h2:decide ((i:Int) < 2048) = true:=decide_eq_true h1
 have h0:(0:Int) ≤ (i:Int):=by omega
 have h3:decide ((0:Int) ≤ (i:Int)) = true:=decide_eq_true h0
 go_enter Tryz.func45,Tryz.ntmps45
 go_wp2_with fail
 go_ret
 exact ⟨rfl,rfl⟩
theorem u8_pow (j:Nat) (hj:j < 8):(2:Int) ^ j % 256 = ((2 ^ j:Nat):Int):=by
 have:j = 0 ∨ j = 1 ∨ j = 2 ∨ j = 3 ∨ j = 4 ∨ j = 5 ∨ j = 6 ∨ j = 7:=by omega
 rcases this with rfl | rfl | rfl | rfl | rfl | rfl | rfl | rfl <;> rfl
theorem bitMask_any (i:Nat) (hi:i < 2048) (w:World):Calls Tryz.prog 46 #[.int .i64 (i:Int)] w fun e w' => e = .returned (.int .u8 ((2 ^ (i % 8):Nat):Int)) ∧ w = w':=by
 have h0:(i:Int).tmod 8 = (i:Int) % 8:=Int.tmod_eq_emod_of_nonneg (by omega)
 have hq:=u8_pow (i % 8) (Nat.mod_lt _ (by decide))
 have HQ:=Lib.hid hq
 clear hq
 go_enter Tryz.func46,Tryz.ntmps46
 go_wp2_with fail
 go_ret
 exact ⟨by rw [← HQ.out];rfl,rfl⟩
theorem pow_lt8 (i:Nat):2 ^ (i % 8) < 256:=by
 have:i % 8 = 0 ∨ i % 8 = 1 ∨ i % 8 = 2 ∨ i % 8 = 3 ∨ i % 8 = 4 ∨ i % 8 = 5 ∨ i % 8 = 6 ∨ i % 8 = 7:=by omega
 rcases this with h | h | h | h | h | h | h | h <;> (rw [h];decide)
def mapB (used size:Nat) (i:Nat):Bool:=decide (i < used) || (decide (size ≤ i) && decide (i < 2048))
def preB (n:Nat) (i:Nat):Bool:=decide (i < n)
end Go.Proofs.YtphamecphmbipaaGreatDoor

namespace Go.Proofs.YtphamecphmbipaaGreatDoor.Mv
open Go.RowKit Go.Proofs.YtphamecphmbipaaGreatDoor
set_option linter.unusedVariables false
def tame (o:Oper):Bool:=match o.op with | .store _ _ _ => true | _ => plainOp o
section
variable {F:Fence} {m:Nat} {P:Program} {ops:Array Oper} {md:Region.Mode} {σ:Type} {C:σ → World → Prop}
theorem tame_no_enter {o:Oper} (ho:tame o = true) (a:Act) (w:World) (f:FuncId) (args:Array Value) (w':World):(execOp a.eval o).run P w ≠ .ok (.enter f args) w':=by
 unfold tame at ho
 split at ho
 ·rename_i ty x y hop
  unfold execOp
  simp only [hop,Sem.run_bind]
  intro h
  cases hr:(Instr.storeAt ty (a.eval x) (a.eval y)).run P w with
  | ok u w1 => rw [hr] at h;simp [Result.andThen,Sem.run_pure] at h
  | halt e w1 => rw [hr] at h;simp [Result.andThen] at h
 ·exact plain_no_enter ho a w f args w'
theorem tame_no_call {o:Oper} (ho:tame o = true) (c):o.op ≠ .call c:=by
 intro h;unfold tame at ho;rw [h] at ho;unfold plainOp at ho;rw [h] at ho;cases ho
theorem tame_no_defer {o:Oper} (ho:tame o = true) (c):o.op ≠ .defer c:=by
 intro h;unfold tame at ho;rw [h] at ho;unfold plainOp at ho;rw [h] at ho;cases ho
theorem wpOpIn_of_lin (ht:ops.all tame = true) {i:Nat} {s:σ} {a:Act} {K:σ → Act → Prop} {K':Act → World → Prop} {Q':Exit → Act → World → Prop} {w:World} (hC:C s w) (h:∀ s a w',C s w' → K s a → K' a w') (hh:linOp P ops C i K s a):wpOpIn F m P ops Q' i K' a w:=by
 unfold linOp at hh
 unfold wpOpIn
 split
 ·rename_i ho;simp only [ho] at hh;exact h _ _ _ hC hh
 ·rename_i o ho
  simp only [ho] at hh
  have hta:tame o = true:=by
   rw [Array.all_eq_true_iff_forall_mem] at ht
   exact ht o (Array.mem_of_getElem? ho)
  have hab:∀ f,o.about P w a.eval = some f → F.fn f:=by
   intro f hf
   unfold Oper.about at hf
   split at hf
   ·rename_i c hc;exact absurd hc (tame_no_call hta c)
   ·cases hf
  rcases hh with ⟨hw,hy⟩ | ⟨hw,hk⟩
  ·simp only [hw,if_true]
   unfold Oper.wpIn
   refine ⟨hab,?_⟩
   rw [Oper.semAt_plain F _ _ (tame_no_defer hta)]
   have hne:=fun f args w' => tame_no_enter (P:=P) hta a w f args w'
   rcases hy with ⟨_,hk⟩ | ⟨_,v,hs,hk⟩
   ·have h3:=hk w hC
    generalize (execOp a.eval o).run P w = r at *
    cases r with
    | ok n w' =>
     cases n <;> simp only [movesUpon] at h3 <;> simp only [Oper.uponIn]
     ·obtain ⟨s',h4,h5⟩:=h3;exact h _ _ _ h4 h5
     ·obtain ⟨s',h4,h5⟩:=h3;exact h _ _ _ h4 h5
     ·exact absurd rfl (hne _ _ _)
    | halt x w' => simp only [movesUpon] at h3
   ·have h3:=hs w ⟨_,hC⟩
    generalize (execOp a.eval o).run P w = r at *
    cases r with
    | ok n w' =>
     cases n <;> simp only [stillUpon] at h3 <;> simp only [Oper.uponIn]
     ·obtain ⟨rfl,rfl⟩:=h3;exact h _ _ _ hC hk
     ·obtain ⟨rfl,rfl⟩:=h3;exact h _ _ _ hC hk
    | halt x w' => simp only [stillUpon] at h3
  ·rw [if_neg (by rw [hw];decide)]
   exact ⟨hab,h _ _ _ hC hk⟩
theorem wpAnyIn_of_lin (ht:ops.all tame = true) {Q:σ → Act → Prop} {Q':Exit → Act → World → Prop} (hQ:∀ s a w,C s w → Q s a → Q' .normal a w):∀ (fuel:Nat) (listed:Array Bool) (s:σ) (a:Act) (w:World),C s w →
  wpAnyL P md ops C Q fuel listed s a → wpAnyIn F m P md ops Q' fuel listed a w
 | 0,_,_,_,_,hw,h => ⟨h.1,hQ _ _ _ hw h.2⟩
 | fuel + 1,_,_,_,_,hw,h => ⟨fun h0 => hQ _ _ _ hw (h.1 h0),fun i hi => wpOpIn_of_lin ht hw (fun s' a' w' hw' => wpAnyIn_of_lin ht hQ fuel _ s' a' w' hw') (h.2 i hi)⟩
theorem wpIn_region_mc (C:σ → World → Prop) (s:σ) {id:Nat} {Q:Exit → Act → World → Prop} {a:Act} {w:World} {l:List Oper} (hm:P.follows .mixedOrders = true) (hB:Region.lexB .any l.toArray = true) (hch:chainC .any l.toArray = true) (ht:l.toArray.all tame = true) (hC:C s { w with drawn:=w.drawn + 1 })
  (h:Nonempty (InW fun w => ∃ s,C s w) → wpLin P l.toArray C (fun s a' => ∀ w',C s w' → Q .normal a' w') l s a):(Code.region id l.toArray true).wpIn F m P Q a w:=by
 simp only [Region.lexB,Bool.and_eq_true] at hB
 refine wpIn_region_any hm (wpAnyIn_of_lin ht (Q:=fun s a' => ∀ w',C s w' → Q .normal a' w') (fun _ _ w' hw' h => h w' hw') _ _ s _ _ hC ?_)
 have:=wpAnyL_lexC (C:=C) (md:=.any) calls_some hch hB.1 l 0 (Array.replicate l.toArray.size false) s a ⟨_,hC⟩ (fun j oj hj hl => by
   rcases Nat.lt_or_ge j l.toArray.size with h' | h'
   ·rw [List.size_toArray] at h';simp [h'] at hl
   ·rw [List.size_toArray] at h';simp [h'] at hl) (fun j hj => by omega) (by simp) (by simpa using hB.2) (h ⟨⟨_,s,hC⟩⟩)
 simpa using this
theorem lin_store1 {Q:σ → Act → Prop} {s:σ} {o:Oper} {rest:List Oper} {a:Act} (hw:Region.wanted o (yielded ops a.tmps) = true) (ty:TypeId) (x y:Operand) (ho:o.op = .store ty x y)
  (b off:Nat) (v:Value) (hx:a.eval x = .pointer (some ⟨b,off,none⟩)) (hy:a.eval y = v) (hi:(P.info? ty).map (·.size) = some 1) (h1:v.oneCell' = true) (s':σ)
  (hc:∀ w,C s w → (∃ u,w.cell? ⟨b,off,none⟩ = some u) ∧ w.frozen? ⟨b,off,none⟩ = false ∧ C s' (w.setCell ⟨b,off,none⟩ v))
  (hk:wpLin P ops C Q rest s' (a.put o.dst undef)):wpLin P ops C Q (o :: rest) s a :=
 lin_move hw (by unfold mv plainOp;rw [ho];rfl) fun w hC => by
  obtain ⟨⟨u,hu⟩,hf,hC'⟩:=hc w hC
  unfold execOp
  simp only [ho,hx,hy,Instr.storeAt,Instr.sureAddr,Sem.run_bind,Sem.run_pure,Result.andThen_ok,run_storeVar1 w b off ty u v hu hf hi h1]
  exact ⟨s',hC',hk⟩
end
end Go.Proofs.YtphamecphmbipaaGreatDoor.Mv

namespace Go.Proofs.YtphamecphmbipaaGreatDoor
open Go.RowKit
set_option linter.unusedVariables false
def hi8 (P:Nat → Bool) (i:Nat):Nat → Nat
 | 0 => 0
 | t + 1 => 2 * hi8 P i t + (P (8 * i + (7 - t))).toNat
theorem hi8_lt (P:Nat → Bool) (i:Nat):∀ t,hi8 P i t < 2 ^ t
 | 0 => by show 0 < 2 ^ 0;decide
 | t + 1 => by
  have h:=hi8_lt P i t
  have hb:(P (8 * i + (7 - t))).toNat ≤ 1:=Bool.toNat_le _
  show 2 * hi8 P i t + (P (8 * i + (7 - t))).toNat < 2 ^ (t + 1)
  rw [Nat.pow_succ];omega
theorem hi8_256 (P:Nat → Bool) (i:Nat) {t:Nat} (ht:t ≤ 8):hi8 P i t < 256:=by
 have h1:=hi8_lt P i t
 have h2:2 ^ t ≤ 2 ^ 8:=Nat.pow_le_pow_right (by decide) ht
 omega
theorem hi8_8 (P:Nat → Bool) (i:Nat):hi8 P i 8 = by8 P i:=by
 unfold by8 b8
 show 2 * (2 * (2 * (2 * (2 * (2 * (2 * (2 * 0 + (P (8 * i + 7)).toNat) + (P (8 * i + 6)).toNat) + (P (8 * i + 5)).toNat) + (P (8 * i + 4)).toNat) + (P (8 * i + 3)).toNat) + (P (8 * i + 2)).toNat) + (P (8 * i + 1)).toNat) + (P (8 * i + 0)).toNat = _
 rw [Nat.add_zero (8 * i)]
 omega
def boF (P:Nat → Bool) (i:Nat):List Value:=[.bool (P i)]
theorem boF_len (P:Nat → Bool) (i:Nat):(boF P i).length = 1:=rfl
def uB (P:Nat → Bool) (k j:Nat):Int:=if j < k then bZ P j else 0
structure R4S (w:World) (P:Nat → Bool) (b off k:Nat) (W:World):Prop where
 r:Blk W w.heap.size 32 256 (fun _ => 0)
 bk:Blk W (w.heap.size + 1) 32 256 (uB P k)
 l:RRow W (some ⟨b,off,none⟩) 1 2048 (boF P)
 bel:Below w.heap.size w W
theorem boRow {W:World} {b off:Nat} {P:Nat → Bool} (h:RRow W (some ⟨b,off,none⟩) 1 2048 (boF P)) {d:Nat} (hd:d < 2048):W.cell? ⟨b,off + d,none⟩ = some (.bool (P d)):=by
 rcases h with h | ⟨b',off',e,h⟩
 ·omega
 ·injection e with e;injection e with e1 e2;subst e1 e2
  have:=h d hd 0 _ rfl
  rwa [Nat.mul_one,Nat.add_zero] at this
set_option maxRecDepth 100000 in
set_option maxHeartbeats 8000000 in
theorem rBits4_any (P:Nat → Bool) (la:Option Addr) (cap:Nat) (w:World) (hl:RRow w la 1 2048 (boF P)) (hla:∀ b off,la = some ⟨b,off,none⟩ → b < w.heap.size) :
  Calls Tryz.prog 59 #[.slice la 2048 cap] w fun e w' => e = .returned (bval (bZ P)) ∧ Below w.heap.size w w':=by
 obtain ⟨b,off,rfl⟩:∃ b off,la = some ⟨b,off,none⟩:=by
  rcases hl with h | ⟨b,off,e,_⟩
  ·omega
  ·exact ⟨b,off,e⟩
 have hbw:=hla b off rfl
 have hal:=zero_block
 have st:Hid (R4S w P b off 0 ((w.alloc (.cells (Ks .u8 256 (fun _ => 0)).toArray 32)).alloc (.cells (Ks .u8 256 (fun _ => 0)).toArray 32))):=by
  refine ⟨(Blk.new w _ _ _).alloc _,?_,?_,((Below.refl _ _).alloc (Nat.le_refl _) _).alloc (by simp) _⟩
  ·have:=Blk.new (w.alloc (.cells (Ks .u8 256 (fun _ => 0)).toArray 32)) 32 256 (fun _ => 0)
   simp only [World.size_alloc] at this
   exact this.congr fun i _ => rfl
  ·exact hl.below (by intro e;cases e) (((Below.refl w.heap.size w).alloc (Nat.le_refl _) _).alloc (by simp) _)
 clear hl hla
 go_enter Tryz.func59,Tryz.ntmps59
 go_wp2_with fail
 go_loopw [4,5,6] (fun u _ _ wr => ∃ k:Nat,u = .int .i64 (k:Int) ∧ k ≤ 256 ∧ R4S w P b off k wr) (fun u _ _ _ => 256 - (intOf u).toNat)
 case atStart => exact ⟨0,rfl,Nat.zero_le _,st.out⟩
 case round =>
  clear st
  obtain ⟨k,rfl,hk,st⟩:=hrel
  have ST:=Lib.hid st
  clear st
  by_cases hlt:k < 256
  ·have hlt':(k:Int) < 256:=by omega
   have k0:(0:Int) ≤ (k:Int):=by omega
   go_wp2_with fail
   go_loopw [5,6] (fun x u wq => ∃ (t:Nat),x = .int .i64 (hi8 P k t:Int) ∧ u = .int .i64 (7 - (t:Int)) ∧ t ≤ 8 ∧ wq = wr) (fun _ u _ => (intOf u + 1).toNat)
   case atStart => exact ⟨0,rfl,rfl,Nat.zero_le _,rfl⟩
   case round =>
    obtain ⟨t,rfl,rfl,ht,rfl⟩:=hrel
    by_cases hlt2:t < 8
    ·obtain ⟨q,hq⟩:∃ q:Nat,7 - (t:Int) = (q:Int):=⟨7 - t,by omega⟩
     have hq':q = 7 - t:=by omega
     have q0:(0:Int) ≤ (q:Int):=by omega
     obtain ⟨D,hD⟩:∃ D:Nat,8 * (k:Int) + (q:Int) = (D:Int):=⟨8 * k + q,by omega⟩
     have hDk:D = 8 * k + (7 - t):=by omega
     have hD2:D < 2048:=by omega
     have hD3:(D:Int) < 2048:=by omega
     have D0:(0:Int) ≤ (D:Int):=by omega
     have cD:=boRow ST.out.l hD2
     have HX:=hi8_256 P k (t:=t) (by omega)
     have HN:Hid (hi8 P k (t + 1) = 2 * hi8 P k t + (P D).toNat):=by show hi8 P k (t + 1) = _;rw [hDk];rfl
     rw [hq]
     obtain ⟨X,hX⟩:∃ X,X = hi8 P k t:=⟨_,rfl⟩
     rw [← hX] at HX HN
     rw [← hX]
     have hq1:Hid (7 - ((t + 1:Nat):Int) = (q:Int) - 1):=by show _ = _;omega
     have hqt:Hid ((q:Int) = 7 - (t:Int)):=hq.symm
     have hD7:=Lib.hid hDk
     clear hX hq hq' hDk
     cases hP:P D with
     | true =>
      rw [hP] at cD
      have hn:Hid (2 * (X:Int) + 1 = (hi8 P k (t + 1):Int)):=by show _ = _;rw [HN.out,hP,Bool.toNat_true];omega
      clear hP HN
      go_wp2_with fail
      go_roundw
      case rel => exact ⟨t + 1,by rw [← hn.out],by rw [hq1.out],by omega,trivial⟩
      case measure => simp [intOf]
     | false =>
      rw [hP] at cD
      have hn:Hid (2 * (X:Int) = (hi8 P k (t + 1):Int)):=by show _ = _;rw [HN.out,hP,Bool.toNat_false];omega
      clear hP HN
      go_wp2_with fail
      go_roundw
      case rel => exact ⟨t + 1,by rw [← hn.out],by rw [hq1.out],by omega,trivial⟩
      case measure => simp [intOf]
    ·obtain rfl:t = 8:=by omega
     rw [hi8_8]
     have hB:=by8_lt P k
     obtain ⟨X,hX⟩:∃ X,X = by8 P k:=⟨_,rfl⟩
     rw [← hX] at hB
     rw [← hX]
     have HX:=Lib.hid hX
     clear hX
     have hb:=ST.out.bk
     have c9:wr.cell? ⟨w.heap.size + 1,k,none⟩ = some (.int .u8 0):=by
      have:=hb.seg k hlt
      rw [Nat.zero_add] at this
      rw [this]
      unfold uB
      rw [if_neg (by omega)]
     have f9:wr.frozen? ⟨w.heap.size + 1,k,none⟩ = false:=soft_of_heap hb k
     have ho:=Only.setCell wr ⟨w.heap.size + 1,k,none⟩ (.int .u8 (X:Int))
     have hl2:Below w.heap.size w wr:=ST.out.bel
     have ST2:Hid (R4S w P b off (k + 1) (wr.setCell ⟨w.heap.size + 1,k,none⟩ (.int .u8 (X:Int)))):=by
      refine ⟨ST.out.r.only ho (by show _ ≠ w.heap.size + 1;omega),(hb.setCell k (X:Int) hlt).congr fun j hj => ?_,?_,hl2.trans (ho.below (by show _ ≤ w.heap.size + 1;omega))⟩
      ·unfold uB over
       show (if k ≤ j ∧ j < k + 1 then (X:Int) else (if j < k then bZ P j else 0)) = if j < k + 1 then bZ P j else 0
       by_cases e:j = k
       ·rw [if_pos (by omega),if_pos (by omega),HX.out,e];rfl
       ·rw [if_neg (by omega)]
        by_cases e2:j < k
        ·rw [if_pos e2,if_pos (by omega)]
        ·rw [if_neg e2,if_neg (by omega)]
      ·rcases ST.out.l with h | ⟨b',off',e,h⟩
       ·omega
       ·injection e with e;injection e with e1 e2;subst e1 e2
        exact .inr ⟨b,off,rfl,fun i hi j v hj => (World.cell?_of_block (ho.block b (by show b ≠ w.heap.size + 1;omega))).trans (h i hi j v hj)⟩
     clear ho hl2 hb ST
     go_wp2_with fail
     go_roundw
     case rel => first | exact ⟨k + 1,by first | rfl | go_num,by omega,ST2.out⟩ | ((repeat apply Exists.intro);exact ⟨⟨k + 1,by first | rfl | go_num,by omega,ST2.out⟩,rfl⟩)
     case measure => simp [intOf];omega
  ·obtain rfl:k = 256:=by omega
   have hb:Blk wr (w.heap.size + 1) 32 256 (bZ P):=ST.out.bk.congr fun j hj => by unfold uB;rw [if_pos hj]
   have hr:=ST.out.r
   go_wp2_with (first | (refine wp_loadBlkG rfl (.tmp 3) rfl (w.heap.size + 1) _ rfl hb ?_) | (refine wp_storeBlk rfl (.tmp 2) (.tmp 30) rfl w.heap.size (bZ P) _ rfl rfl hr ?_))
   intro w7 hR7 ho7
   go_wp2_with fail
   exact bodyPost_ret (results_blk rfl _ _ w.heap.size _ rfl hR7) rfl ⟨rfl,ST.out.bel.trans (ho7.below (Nat.le_refl _))⟩
end Go.Proofs.YtphamecphmbipaaGreatDoor
