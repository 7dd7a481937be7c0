/- Texts of this claim, merged. -/
import Derived.Test.YtphamecphmbipaaGreatDoorK05
namespace Go.Proofs.YtphamecphmbipaaGreatDoor
open Go.RowKit
set_option linter.unusedVariables false
section
variable {P:Program}
structure InW (S:World → Prop) where
 W:World
 h:S W
def InS (S:World → Prop) (w':World):Prop:=∃ s:InW S,w' = s.W
theorem InS.out {S:World → Prop} {w:World} (h:InS S w):S w:=by obtain ⟨s,rfl⟩:=h;exact s.h
theorem wp_region_S (S:World → Prop) {id:Nat} {Q:Exit → Act → World → Prop} {a:Act} {w:World} {l:List Oper} (hm:P.follows .mixedOrders = true) (hB:Region.lexB .any l.toArray = true) (hS:S { w with drawn:=w.drawn + 1 })
  (h:Nonempty (InW S) → wpQuiet P l.toArray (fun w' => ∃ s:InW S,w' = s.W) (fun a' => ∀ w',InS S w' → Q .normal a' w') l a):(Code.region id l.toArray true).wp P Q a w :=
 wp_region_quiet (C:=fun w' => ∃ s:InW S,w' = s.W) hm hB ⟨⟨_,hS⟩,rfl⟩ (h ⟨⟨_,hS⟩⟩)
theorem q_call {S:World → Prop} {f:FuncId} {args:Array Value} {v:Value} (s:InW S) (h:∀ W,S W → Calls P f args W fun e w' => e = .returned v ∧ S w'):Calls P f args s.W fun e w' => e = .returned v ∧ ∃ s':InW S,w' = s'.W :=
 (h s.W s.h).mono fun e w' hh => ⟨hh.1,⟨w',hh.2⟩,rfl⟩
theorem q_load {S:World → Prop} {ops:Array Oper} {Q:Act → Prop} {a:Act} {o:Oper} {rest:List Oper} (hw:Region.wanted o (yielded ops a.tmps) = true) (ty:TypeId) (x:Operand) (ho:o.op = .load ty x)
  (b off:Nat) (hx:a.eval x = .pointer (some ⟨b,off,none⟩)) (cs:List Value) (d:TypeDesc) (hS:∀ w,S w → w.rangeAt b off cs)
  (hu:P.underlying ty = some d) (hd:d.isRow = true) (hi:(P.info? ty).map (·.size) = some cs.length)
  (h:wpQuiet P ops (fun w' => ∃ s:InW S,w' = s.W) Q rest (a.put o.dst (.agg cs.toArray))):wpQuiet P ops (fun w' => ∃ s:InW S,w' = s.W) Q (o :: rest) a:=by
 refine wpQuiet_step fun K hK => ?_
 rw [if_pos hw]
 refine ⟨.agg cs.toArray,fun w hw' => ?_,hK _ h⟩
 obtain ⟨s,rfl⟩:=hw'
 unfold Oper.quietAt execOp
 simp only [ho,hx,Instr.loadAt,Instr.sureAddr,Sem.run_bind,Sem.run_pure,Result.andThen_ok,run_loadVar_mid s.W b off ty cs d (hS s.W s.h) hu hd hi]
 exact ⟨rfl,rfl⟩
theorem q_val {S:World → Prop} {ops:Array Oper} {Q:Act → Prop} {a:Act} {o:Oper} {rest:List Oper} (hw:Region.wanted o (yielded ops a.tmps) = true) (v:Value) (hr:∀ W,(execOp a.eval o).run P W = .ok (.value v) W)
  (h:wpQuiet P ops (fun w' => ∃ s:InW S,w' = s.W) Q rest (a.put o.dst v)):wpQuiet P ops (fun w' => ∃ s:InW S,w' = s.W) Q (o :: rest) a:=by
 refine wpQuiet_step fun K hK => ?_
 rw [if_pos hw]
 refine ⟨v,fun w _ => ?_,hK _ h⟩
 unfold Oper.quietAt
 rw [hr]
 exact ⟨rfl,rfl⟩
theorem wpQuiet_frame {ops:Array Oper} {C:World → Prop} {Q:Act → Prop} {l:List Oper} {a a':Act} (e:a = a') (h:wpQuiet P ops C Q l a'):wpQuiet P ops C Q l a:=e ▸ h
end
def downB (md:Region.Mode) (ops:Array Oper):Bool :=
 (List.range ops.size).all fun i => ((ops[i]?).map fun o => o.after.all fun e => !Region.binds md e || decide (e.on < i)).getD true
def upB (md:Region.Mode) (o:Oper) (l:Nat → Bool):Bool:=o.after.all fun e => !Region.binds md e || l e.on
section
variable {P:Program} {md:Region.Mode} {ops:Array Oper}
theorem downB_spec (h:downB md ops = true) {i:Nat} {o:Oper} (hi:ops[i]? = some o) {e:Edge} (he:e ∈ o.after) (hb:Region.binds md e = true):e.on < i:=by
 unfold downB at h
 rw [List.all_eq_true] at h
 have h1:=h i (List.mem_range.2 (Array.getElem?_eq_some_iff.1 hi).1)
 rw [hi] at h1
 simp only [Option.map_some,Option.getD_some] at h1
 rw [Array.all_eq_true'] at h1
 have h2:=h1 e he
 rw [hb] at h2
 simpa using h2
theorem ready_nil (h:downB md ops = true) {listed:Array Bool} (hs:listed.size = ops.size) (hr:Region.ready md ops listed = []):∀ i,i < ops.size → listed.getD i false = true:=by
 intro i
 induction i using Nat.strongRecOn with
 | _ i ih =>
  intro hi
  cases hl:listed.getD i false with
  | true => rfl
  | false =>
   exfalso
   have:i ∈ Region.ready md ops listed:=by
    refine mem_ready.2 ⟨?_,ops[i],Array.getElem?_eq_getElem hi,fun e he hb => ?_⟩
    ·rw [Array.getD_eq_getD_getElem?,Array.getElem?_eq_getElem (by omega)] at hl ⊢;simpa using hl
    ·have:=downB_spec h (Array.getElem?_eq_getElem hi) he hb
     exact ih _ this (by omega)
   rw [hr] at this
   cases this
def StepsI (P:Program) (md:Region.Mode) (ops:Array Oper) (Q:Exit → Act → World → Prop) (I:(Nat → Bool) → Act → World → Prop):Nat → List Oper → Prop
 | _,[] => True
 | n,o :: rest => (∀ l a w,l n = false → upB md o l = true → I l a w → wpOp P ops Q n (I (fun j => j == n || l j)) a w) ∧ StepsI P md ops Q I (n + 1) rest
theorem StepsI.get {Q:Exit → Act → World → Prop} {I:(Nat → Bool) → Act → World → Prop}:∀ (L:List Oper) (n i:Nat) (o:Oper),StepsI P md ops Q I n L → L[i]? = some o →
  ∀ l a w,l (n + i) = false → upB md o l = true → I l a w → wpOp P ops Q (n + i) (I (fun j => j == (n + i) || l j)) a w
 | [],_,_,_,_,h => by cases h
 | o' :: L,n,0,o,h,hi => by cases hi;exact h.1
 | o' :: L,n,i + 1,o,h,hi => by
  have:=StepsI.get L (n + 1) i o h.2 (by simpa using hi)
  rw [show n + 1 + i = n + (i + 1) by omega] at this
  exact this
theorem wpAny_inv {Q:Exit → Act → World → Prop} {I:(Nat → Bool) → Act → World → Prop} (hd:downB md ops = true) (hst:StepsI P md ops Q I 0 ops.toList)
  (hI:∀ l l' a w,(∀ i,i < ops.size → l i = l' i) → I l a w → I l' a w)
  (hend:∀ a w,I (fun _ => true) a w → Q .normal a w):∀ (fuel:Nat) (listed:Array Bool) (a:Act) (w:World),listed.size = ops.size → (listed.toList.filter (fun b => !b)).length = fuel →
   I (fun j => listed.getD j false) a w → wpAny P md ops Q fuel listed a w:=by
 have fin:∀ (listed:Array Bool) (a:Act) (w:World),listed.size = ops.size → Region.ready md ops listed = [] → I (fun j => listed.getD j false) a w → Q .normal a w:=fun listed a w hs hr h =>
  hend a w (hI _ _ a w (fun i hi => ready_nil hd hs hr i hi) h)
 intro fuel
 induction fuel with
 | zero =>
  intro listed a w hs hc h
  have hall:∀ b ∈ listed.toList,b = true:=by
   intro b hb
   cases b with
   | true => rfl
   | false =>
    have:false ∈ listed.toList.filter (fun b => !b):=List.mem_filter.2 ⟨hb,rfl⟩
    rw [List.length_eq_zero_iff.1 hc] at this
    cases this
  have hr:Region.ready md ops listed = []:=by
   cases hr:Region.ready md ops listed with
   | nil => rfl
   | cons i r =>
    have hi:i ∈ Region.ready md ops listed:=by rw [hr];simp
    obtain ⟨h1,o,ho,_⟩:=mem_ready.1 hi
    have hlt:i < listed.size:=by rw [hs];exact (Array.getElem?_eq_some_iff.1 ho).1
    rw [Array.getD_eq_getD_getElem?,Array.getElem?_eq_getElem hlt] at h1
    have:=hall listed[i] (by simp)
    simp [this] at h1
  exact ⟨hr,fin listed a w hs hr h⟩
 | succ fuel ih =>
  intro listed a w hs hc h
  refine ⟨fun hr => fin listed a w hs hr h,fun i hi => ?_⟩
  obtain ⟨h1,o,ho,hall⟩:=mem_ready.1 hi
  have hlt:i < listed.size:=by rw [hs];exact (Array.getElem?_eq_some_iff.1 ho).1
  have hli:listed[i] = false:=by rw [Array.getD_eq_getD_getElem?,Array.getElem?_eq_getElem hlt] at h1;simpa using h1
  have hstep:=StepsI.get ops.toList 0 i o hst (by simpa using ho) (fun j => listed.getD j false) a w (by rw [Nat.zero_add,Array.getD_eq_getD_getElem?,Array.getElem?_eq_getElem hlt];simpa using hli)
   (by
    unfold upB
    rw [Array.all_eq_true']
    intro e he
    cases hb:Region.binds md e with
    | false => rfl
    | true => simpa using hall e he hb) h
  rw [Nat.zero_add] at hstep
  refine wpOp_mono (fun a' w' h' => ?_) hstep
  refine ih _ a' w' (by simpa using hs) ?_ (hI _ _ a' w' (fun j hj => ?_) h')
  ·have key:∀ (L:List Bool) (i:Nat) (hi:i < L.length),L[i] = false → ((L.set i true).filter (fun b => !b)).length + 1 = (L.filter (fun b => !b)).length:=by
    intro L
    induction L with
    | nil => intro i hi;simp at hi
    | cons b L ihL =>
     intro i hi hb
     cases i with
     | zero => simp at hb;subst hb;simp
     | succ i =>
      have:=ihL i (by simpa using hi) (by simpa using hb)
      cases b <;> simp <;> omega
   have:=key listed.toList i (by simpa using hlt) (by simpa using hli)
   rw [hc] at this
   have e:(listed.setIfInBounds i true).toList = listed.toList.set i true:=by simp
   rw [e]
   omega
  ·by_cases hji:j = i
   ·subst hji
    simp [Array.getD_eq_getD_getElem?,hlt]
   ·simp only [Array.getD_eq_getD_getElem?,Array.getElem?_setIfInBounds_ne (Ne.symm hji),show (j == i) = false by simpa using hji,Bool.false_or]
theorem wp_region_inv (I:(Nat → Bool) → Act → World → Prop) {id:Nat} {Q:Exit → Act → World → Prop} {a:Act} {w:World} {L:List Oper} (hm:P.follows .mixedOrders = true) (hd:downB .any L.toArray = true)
  (hI:∀ l l' a w,(∀ i,i < L.length → l i = l' i) → I l a w → I l' a w) (h0:I (fun _ => false) a { w with drawn:=w.drawn + 1 }) (hst:StepsI P .any L.toArray Q I 0 L)
  (hend:∀ a w,I (fun _ => true) a w → Q .normal a w):(Code.region id L.toArray true).wp P Q a w:=by
 refine wp_region_any hm (wpAny_inv (I:=I) hd (by simpa using hst) (by simpa using hI) hend _ _ a _ (by simp) (by simp) (hI _ _ _ _ (fun i hi => ?_) h0))
 simp [Array.getD_eq_getD_getElem?,hi]
end
def barB (md:Region.Mode) (n:Nat) (ops:Array Oper):Bool :=
 (List.range ops.size).all fun j => match ops[j]? with
  | none => true
  | some o => if j < n then (match o.guard with | none => true | some (g,_) => decide (g < n)) else (List.range j).all fun i => o.after.any fun e => Region.binds md e && e.on == i
section
variable {P:Program} {md:Region.Mode} {ops:Array Oper}
theorem barB_wait {n:Nat} (h:barB md n ops = true) {j:Nat} {o:Oper} (hj:ops[j]? = some o) (hn:n ≤ j) {i:Nat} (hi:i < j):∃ e ∈ o.after,Region.binds md e = true ∧ e.on = i:=by
 unfold barB at h
 rw [List.all_eq_true] at h
 have h1:=h j (List.mem_range.2 (Array.getElem?_eq_some_iff.1 hj).1)
 simp only [hj,if_neg (show ¬ j < n by omega),List.all_eq_true] at h1
 have h2:=h1 i (List.mem_range.2 hi)
 rw [Array.any_eq_true'] at h2
 obtain ⟨e,he,hb⟩:=h2
 rw [Bool.and_eq_true,beq_iff_eq] at hb
 exact ⟨e,he,hb.1,hb.2⟩
theorem barB_guard {n:Nat} (h:barB md n ops = true) {j:Nat} {o:Oper} (hj:ops[j]? = some o) (hn:j < n) {g:Nat} {b:Bool} (hg:o.guard = some (g,b)):g < n:=by
 unfold barB at h
 rw [List.all_eq_true] at h
 have h1:=h j (List.mem_range.2 (Array.getElem?_eq_some_iff.1 hj).1)
 simp only [hj,if_pos hn,hg,decide_eq_true_eq] at h1
 exact h1
theorem bar_tail {n:Nat} (hb:barB md n ops = true) (hd:downB md ops = true) {Q:Exit → Act → World → Prop}:∀ (l:List Oper) (k x:Nat) (listed:Array Bool) (a:Act) (w:World),n ≤ k → (∀ j,l[j]? = ops[k + j]?) → listed.size = ops.size →
  (∀ i,i < k → listed.getD i false = true) → (∀ i,k ≤ i → i < ops.size → listed.getD i true = false) → wpList P ops Q l a w → wpAny P md ops Q (l.length + x) listed a w
 | [],k,x,listed,a,w,hk,hl,hs,h1,h0,h => by
  have hsz:ops.size ≤ k:=by have:=(hl 0).symm;simp at this;omega
  have hr:Region.ready md ops listed = []:=by
   cases hr:Region.ready md ops listed with
   | nil => rfl
   | cons i r =>
    have hi:i ∈ Region.ready md ops listed:=by rw [hr];simp
    obtain ⟨hu,o,ho,_⟩:=mem_ready.1 hi
    have hlt:=(Array.getElem?_eq_some_iff.1 ho).1
    have:=h1 i (by omega)
    rw [Array.getD_eq_getD_getElem?,Array.getElem?_eq_getElem (by omega)] at hu this
    simp at hu this
    rw [this] at hu;cases hu
  cases x with
  | zero => exact ⟨hr,h⟩
  | succ x =>
   rw [show ([]:List Oper).length + (x + 1) = x + 1 by simp]
   exact ⟨fun _ => h,fun i hi => by rw [hr] at hi;cases hi⟩
 | o :: l,k,x,listed,a,w,hk,hl,hs,h1,h0,h => by
  have ho:ops[k]? = some o:=by simpa using (hl 0).symm
  have hlt:=(Array.getElem?_eq_some_iff.1 ho).1
  have hin:k ∈ Region.ready md ops listed:=mem_ready.2 ⟨h0 k (Nat.le_refl _) hlt,o,ho,fun e he hbe => h1 _ (downB_spec hd ho he hbe)⟩
  rw [show (o :: l).length + x = (l.length + x) + 1 by simp;omega]
  refine ⟨fun hr => (by rw [hr] at hin;cases hin),fun i hi => ?_⟩
  obtain ⟨hu,oi,hoi,hall⟩:=mem_ready.1 hi
  have hilt:=(Array.getElem?_eq_some_iff.1 hoi).1
  have hik:i = k:=by
   rcases Nat.lt_trichotomy i k with hh | hh | hh
   ·have:=h1 i hh
    rw [Array.getD_eq_getD_getElem?,Array.getElem?_eq_getElem (by omega)] at hu this
    simp at hu this
    rw [this] at hu;cases hu
   ·exact hh
   ·obtain ⟨e,he,hbe,hon⟩:=barB_wait hb hoi (by omega) hh
    have hx:=hall e he hbe
    rw [hon] at hx
    have h2:=h0 k (Nat.le_refl _) hlt
    rw [Array.getD_eq_getD_getElem?,Array.getElem?_eq_getElem (by omega)] at hx h2
    simp at hx h2
    rw [hx] at h2;cases h2
  subst hik
  have key:wpOp P ops Q i (wpList P ops Q l) a w:=by
   unfold wpOp
   simp only [ho]
   exact h
  refine wpOp_mono (fun a' w' h' => bar_tail hb hd l (i + 1) x _ a' w' (by omega) (fun j => by have:=hl (j + 1);simpa [Nat.add_assoc,Nat.add_comm 1 j] using this) (by simpa using hs) (fun j hj => ?_) (fun j hj hjs => ?_) h') key
  ·by_cases hji:j = i
   ·subst hji;simp [Array.getD_eq_getD_getElem?,hs,hlt]
   ·rw [Array.getD_eq_getD_getElem?,Array.getElem?_setIfInBounds_ne (Ne.symm hji),← Array.getD_eq_getD_getElem?];exact h1 j (by omega)
  ·rw [Array.getD_eq_getD_getElem?,Array.getElem?_setIfInBounds_ne (by omega),← Array.getD_eq_getD_getElem?];exact h0 j (by omega) hjs
theorem bar_head {n:Nat} {ops1:Array Oper} {l2:List Oper} {C:World → Prop} (hb:barB md n ops = true) (hd:downB md ops = true) (hd1:downB md ops1 = true) (hn1:ops1.size = n) (h1:∀ i,i < n → ops1[i]? = ops[i]?) (hl:∀ j,l2[j]? = ops[n + j]?)
  {Q:Exit → Act → World → Prop} {Q1:Act → Prop} (hQ:∀ a w,C w → Q1 a → wpList P ops Q l2 a w):∀ (fuel:Nat) (listed1 listed:Array Bool) (a:Act) (w:World),C w → listed1.size = n → listed.size = ops.size →
   (∀ i,i < n → listed1[i]? = listed[i]?) → (∀ i,n ≤ i → i < ops.size → listed.getD i true = false) → wpAnyQ P md ops1 C Q1 fuel listed1 a → wpAny P md ops Q (l2.length + fuel) listed a w:=by
 have hnn:n ≤ ops.size:=by
  rcases Nat.lt_or_ge ops.size n with h | h
  ·have:=h1 ops.size h
   rw [Array.getElem?_eq_none (Nat.le_refl _),Array.getElem?_eq_none_iff] at this
   omega
  ·exact h
 have done:∀ (fuel:Nat) (listed1 listed:Array Bool) (a:Act) (w:World),C w → listed1.size = n → listed.size = ops.size → (∀ i,i < n → listed1[i]? = listed[i]?) → (∀ i,n ≤ i → i < ops.size → listed.getD i true = false) →
   Region.ready md ops1 listed1 = [] → Q1 a → wpAny P md ops Q (l2.length + fuel) listed a w:=fun fuel listed1 listed a w hw hs1 hs hll h0 hr hq => by
  refine bar_tail hb hd l2 n fuel listed a w (Nat.le_refl _) hl hs (fun i hi => ?_) h0 (hQ a w hw hq)
  have:=ready_nil hd1 (by omega) hr i (by omega)
  rw [Array.getD_eq_getD_getElem?,hll i hi,← Array.getD_eq_getD_getElem?] at this
  exact this
 intro fuel
 induction fuel with
 | zero => intro listed1 listed a w hw hs1 hs hll h0 h;exact done 0 listed1 listed a w hw hs1 hs hll h0 h.1 h.2
 | succ fuel ih =>
  intro listed1 listed a w hw hs1 hs hll h0 h
  by_cases hr:Region.ready md ops1 listed1 = []
  ·exact done _ listed1 listed a w hw hs1 hs hll h0 hr (h.1 hr)
  ·obtain ⟨i0,hi0⟩:=List.exists_mem_of_ne_nil _ hr
   obtain ⟨hu0,o0,ho0,hall0⟩:=mem_ready.1 hi0
   have hi0n:i0 < n:=by rw [← hn1];exact (Array.getElem?_eq_some_iff.1 ho0).1
   have get:∀ i,i < n → ∀ d,listed1.getD i d = listed.getD i d:=fun i hi d => by rw [Array.getD_eq_getD_getElem?,Array.getD_eq_getD_getElem?,hll i hi]
   have up:i0 ∈ Region.ready md ops listed:=mem_ready.2 ⟨by rw [← get i0 hi0n];exact hu0,o0,by rw [← h1 i0 hi0n];exact ho0,fun e he hbe => by
    have hlt:=downB_spec hd1 ho0 he hbe
    rw [← get e.on (by omega)];exact hall0 e he hbe⟩
   rw [show l2.length + (fuel + 1) = (l2.length + fuel) + 1 by omega]
   refine ⟨fun hrr => (by rw [hrr] at up;cases up),fun i hi => ?_⟩
   obtain ⟨hu,o,ho,hall⟩:=mem_ready.1 hi
   have hin:i < n:=by
    rcases Nat.lt_or_ge i n with hh | hh
    ·exact hh
    ·obtain ⟨e,he,hbe,hon⟩:=barB_wait hb ho hh (i:=i0) (by omega)
     have hx:=hall e he hbe
     rw [hon,← get i0 hi0n] at hx
     rw [Array.getD_eq_getD_getElem?,Array.getElem?_eq_getElem (by omega)] at hx hu0
     simp at hx hu0
     rw [hx] at hu0;cases hu0
   have ho1:ops1[i]? = some o:=by rw [h1 i hin];exact ho
   have hi1:i ∈ Region.ready md ops1 listed1:=mem_ready.2 ⟨by rw [get i hin];exact hu,o,ho1,fun e he hbe => by
    have hlt:=downB_spec hd1 ho1 he hbe
    rw [get e.on (by omega)];exact hall e he hbe⟩
   have hq:=h.2 i hi1
   have hwant:∀ a:Act,Region.wanted o (yielded ops1 a.tmps) = Region.wanted o (yielded ops a.tmps):=fun a => by
    unfold Region.wanted
    cases hg:o.guard with
    | none => rfl
    | some p =>
     obtain ⟨g,b⟩:=p
     have:=barB_guard hb ho hin hg
     simp only [yielded,h1 g this]
   have hq':qOp P ops C i (wpAnyQ P md ops1 C Q1 fuel (listed1.setIfInBounds i true)) a:=by
    unfold qOp at hq ⊢
    simp only [ho1] at hq
    simp only [ho]
    rw [← hwant]
    exact hq
   refine wpOp_of_qOp hw (fun a' w' hw' h' => ih (listed1.setIfInBounds i true) (listed.setIfInBounds i true) a' w' hw' (by simpa using hs1) (by simpa using hs) (fun j hj => ?_) (fun j hj hjs => ?_) h') hq'
   ·by_cases hji:i = j
    ·subst hji;simp [hs1,hs,hj,show i < ops.size by omega]
    ·rw [Array.getElem?_setIfInBounds_ne hji,Array.getElem?_setIfInBounds_ne hji];exact hll j hj
   ·rw [Array.getD_eq_getD_getElem?,Array.getElem?_setIfInBounds_ne (by omega),← Array.getD_eq_getD_getElem?];exact h0 j hj hjs
theorem wp_region_bar (S:World → Prop) (n:Nat) {id:Nat} {Q:Exit → Act → World → Prop} {a:Act} {w:World} {L:List Oper} (hm:P.follows .mixedOrders = true) (hB:Region.lexB .any (L.take n).toArray = true)
  (hb:barB .any n L.toArray = true) (hd:downB .any L.toArray = true) (hd1:downB .any (L.take n).toArray = true) (hn:n ≤ L.length) (hS:S { w with drawn:=w.drawn + 1 })
  (h:Nonempty (InW S) → wpQuiet P (L.take n).toArray (fun w' => ∃ s:InW S,w' = s.W) (fun a' => ∀ w',InS S w' → wpList P L.toArray Q (L.drop n) a' w') (L.take n) a):(Code.region id L.toArray true).wp P Q a w:=by
 have hC:∃ s:InW S,{ w with drawn:=w.drawn + 1 } = s.W:=⟨⟨_,hS⟩,rfl⟩
 simp only [Region.lexB,Bool.and_eq_true] at hB
 have hq:=wpAnyQ_lex (C:=fun w' => ∃ s:InW S,w' = s.W) (md:=.any) hB.1 (L.take n) 0 (Array.replicate n false) a (by simp) (by have:=hB.2;simpa [Nat.min_eq_left hn] using this) (h ⟨⟨_,hS⟩⟩)
 have hlen:(L.take n).length = n:=by simp [Nat.min_eq_left hn]
 rw [hlen] at hq
 have:=bar_head (P:=P) (md:=.any) (ops:=L.toArray) (ops1:=(L.take n).toArray) (l2:=L.drop n) (n:=n) (C:=fun w' => ∃ s:InW S,w' = s.W) hb hd hd1 (by simp [Nat.min_eq_left hn]) (fun i hi => by simp [hi]) (fun j => by simp)
  (Q:=Q) (Q1:=fun a' => ∀ w',InS S w' → wpList P L.toArray Q (L.drop n) a' w') (fun a w hw h => h w hw) n (Array.replicate n false) (Array.replicate L.length false) a { w with drawn:=w.drawn + 1 } hC (by simp) (by simp)
  (fun i hi => by simp [hi,show i < L.length by omega]) (fun i hi hs => by simp at hs;simp [hs]) hq
 rw [show (L.drop n).length + n = L.length by simp;omega] at this
 refine wp_region_any hm ?_
 simpa using this
end
def isCall (o:Oper):Bool:=match o.op with | .call _ => true | _ => false
def plainOp (o:Oper):Bool:=match o.op with | .move _ | .assign _ | .pick _ _ _ | .build _ _ | .load _ _ | .binOp _ _ _ _ _ | .unOp _ _ _ | .convert _ _ _ | .fieldAddr _ _ _ | .field _ _ _ | .indexAddr _ _ _ | .index _ _ _ | .extract _ _ | .slice _ _ _ _ _ => true | _ => false
def chainB (md:Region.Mode) (ops:Array Oper):Bool :=
 (List.range ops.size).all fun j => (List.range j).all fun i => match ops[j]?,ops[i]? with
  | some oj,some oi => !(isCall oi && isCall oj) || (List.range j).any fun p => decide (i ≤ p) && ((ops[p]?).map isCall).getD false && oj.after.any fun e => Region.binds md e && e.on == p
  | _,_ => true
section
variable {P:Program} {ops:Array Oper} {md:Region.Mode} {C:Nat → World → Prop}
theorem chainB_spec (h:chainB md ops = true) {i j:Nat} {oi oj:Oper} (hi:ops[i]? = some oi) (hj:ops[j]? = some oj) (ci:isCall oi = true) (cj:isCall oj = true) (hij:i < j) :
  ∃ p op,i ≤ p ∧ p < j ∧ ops[p]? = some op ∧ isCall op = true ∧ ∃ e ∈ oj.after,Region.binds md e = true ∧ e.on = p:=by
 unfold chainB at h
 rw [List.all_eq_true] at h
 have h1:=h j (List.mem_range.2 (Array.getElem?_eq_some_iff.1 hj).1)
 rw [List.all_eq_true] at h1
 have h2:=h1 i (List.mem_range.2 hij)
 rw [hi,hj] at h2
 simp only [ci,cj,Bool.and_true,Bool.not_true,Bool.false_or,List.any_eq_true,Bool.and_eq_true,decide_eq_true_eq] at h2
 obtain ⟨p,hp,⟨hip,hc⟩,hany⟩:=h2
 rw [Array.any_eq_true'] at hany
 obtain ⟨e,he,hb⟩:=hany
 rw [Bool.and_eq_true,beq_iff_eq] at hb
 cases ho:ops[p]? with
 | none => rw [ho] at hc;cases hc
 | some op => rw [ho] at hc;exact ⟨p,op,hip,List.mem_range.1 hp,ho,by simpa using hc,e,he,hb.1,hb.2⟩
def stillUpon (w:World) (v:Value):Result Next → Prop
 | .ok (.value u) w' => w' = w ∧ u = v
 | .ok .skip w' => w' = w ∧ v = undef
 | _ => False
def entersUpon (P:Program) (w:World) (R:Ending → World → Prop):Result Next → Prop
 | .ok (.enter f args) w' => w' = w ∧ Calls P f args w R
 | _ => False
def stillIn (P:Program) (C:Nat → World → Prop) (o:Oper) (a:Act) (v:Value):Prop:=∀ w,(∃ k,C k w) → stillUpon w v ((execOp a.eval o).run P w)
def callIn (P:Program) (C:Nat → World → Prop) (k:Nat) (o:Oper) (a:Act) (v:Value):Prop:=∀ w,C k w → entersUpon P w (fun e w' => e = .returned v ∧ C (k + 1) w') ((execOp a.eval o).run P w)
def LY (P:Program) (ops:Array Oper) (C:Nat → World → Prop) (o:Oper) (v:Value) (a:Act) (k k':Nat):Prop :=
 (Region.wanted o (yielded ops a.tmps) = true ∧ ((isCall o = true ∧ callIn P C k o a v ∧ k' = k + 1) ∨ (isCall o = false ∧ stillIn P C o a v ∧ k' = k))) ∨
 (Region.wanted o (yielded ops a.tmps) = false ∧ v = undef ∧ k' = k)
def linOp (P:Program) (ops:Array Oper) (C:Nat → World → Prop) (i:Nat) (K:Nat → Act → Prop) (k:Nat) (a:Act):Prop :=
 match ops[i]? with
 | none => K k a
 | some o => ∃ v k',LY P ops C o v a k k' ∧ K k' (a.put o.dst v)
def wpAnyL (P:Program) (md:Region.Mode) (ops:Array Oper) (C:Nat → World → Prop) (Q:Nat → Act → Prop):Nat → Array Bool → Nat → Act → Prop
 | 0,listed,k,a => Region.ready md ops listed = [] ∧ Q k a
 | fuel + 1,listed,k,a => (Region.ready md ops listed = [] → Q k a) ∧ ∀ i ∈ Region.ready md ops listed,linOp P ops C i (wpAnyL P md ops C Q fuel (listed.setIfInBounds i true)) k a
theorem linOp_mono {i k:Nat} {a:Act} {K K':Nat → Act → Prop} (h:∀ k a,K k a → K' k a) (hh:linOp P ops C i K k a):linOp P ops C i K' k a:=by
 unfold linOp at *
 cases ho:ops[i]? with
 | none => rw [ho] at hh;exact h _ _ hh
 | some o => rw [ho] at hh;obtain ⟨v,k',h1,h2⟩:=hh;exact ⟨v,k',h1,h _ _ h2⟩
theorem wpOp_of_lin {i k:Nat} {a:Act} {K:Nat → Act → Prop} {K':Act → World → Prop} {Q':Exit → Act → World → Prop} {w:World} (hC:C k w) (h:∀ k a w',C k w' → K k a → K' a w') (hh:linOp P ops C i K k a):wpOp P ops Q' i K' a w:=by
 unfold linOp at hh
 unfold wpOp
 split
 ·rename_i ho;simp only [ho] at hh;exact h _ _ _ hC hh
 ·rename_i o ho
  simp only [ho] at hh
  obtain ⟨v,k',hy,hK⟩:=hh
  rcases hy with ⟨hw,hy⟩ | ⟨hw,rfl,rfl⟩
  ·simp only [hw,if_true]
   refine .inl ?_
   unfold Oper.wp
   rcases hy with ⟨_,hc,rfl⟩ | ⟨_,hs,rfl⟩
   ·have h3:=hc w hC
    generalize (execOp a.eval o).run P w = r at *
    cases r with
    | ok n w' =>
     cases n <;> simp only [entersUpon] at h3 <;> simp only [Oper.upon]
     obtain ⟨rfl,hc⟩:=h3
     exact hc.mono fun e w'' ⟨he,hw''⟩ => by subst he;exact h _ _ _ hw'' hK
    | halt x w' => simp only [entersUpon] at h3
   ·have h3:=hs w ⟨_,hC⟩
    generalize (execOp a.eval o).run P w = r at *
    cases r with
    | ok n w' =>
     cases n <;> simp only [stillUpon] at h3 <;> simp only [Oper.upon]
     ·obtain ⟨rfl,rfl⟩:=h3;exact h _ _ _ hC hK
     ·obtain ⟨rfl,rfl⟩:=h3;exact h _ _ _ hC hK
    | halt x w' => simp only [stillUpon] at h3
  ·simp only [hw];exact h _ _ _ hC hK
theorem wpAny_of_lin {Q:Nat → Act → Prop} {Q':Exit → Act → World → Prop} (hQ:∀ k a w,C k w → Q k a → Q' .normal a w):∀ (fuel:Nat) (listed:Array Bool) (k:Nat) (a:Act) (w:World),C k w →
  wpAnyL P md ops C Q fuel listed k a → wpAny P md ops Q' fuel listed a w
 | 0,_,_,_,_,hw,h => ⟨h.1,hQ _ _ _ hw h.2⟩
 | fuel + 1,_,_,_,_,hw,h => ⟨fun h0 => hQ _ _ _ hw (h.1 h0),fun i hi => wpOp_of_lin hw (fun k' a' w' hw' => wpAny_of_lin hQ fuel _ k' a' w' hw') (h.2 i hi)⟩
theorem LY.linOp {i k k':Nat} {o:Oper} {v:Value} {a:Act} (hi:ops[i]? = some o) (hy:LY P ops C o v a k k') {K:Nat → Act → Prop} (h:K k' (a.put o.dst v)):linOp P ops C i K k a:=by
 unfold Proofs.YtphamecphmbipaaGreatDoor.linOp
 simp only [hi]
 exact ⟨v,k',hy,h⟩
theorem LY.of_same {o:Oper} {v:Value} {a a':Act} {k k':Nat} (hy:LY P ops C o v a k k') (he:execOp a'.eval o = execOp a.eval o)
  (hw:Region.wanted o (yielded ops a'.tmps) = Region.wanted o (yielded ops a.tmps)):LY P ops C o v a' k k':=by
 unfold LY callIn stillIn at *
 rw [he,hw]
 exact hy
theorem LY.step {o:Oper} {v:Value} {a:Act} {k k':Nat} (hy:LY P ops C o v a k k') (hc:isCall o = false):k' = k ∧ ∀ m,LY P ops C o v a m m:=by
 rcases hy with ⟨hw,⟨h,_⟩ | ⟨h,hs,rfl⟩⟩ | ⟨hw,rfl,rfl⟩
 ·rw [hc] at h;cases h
 ·exact ⟨rfl,fun m => .inl ⟨hw,.inr ⟨h,hs,rfl⟩⟩⟩
 ·exact ⟨rfl,fun m => .inr ⟨hw,rfl,rfl⟩⟩
theorem linOp_put {j k k1:Nat} {oi oj:Oper} {v:Value} (hj:ops[j]? = some oj) (hap:oi.apart ops oj = true)
  (hsi:∀ cs b,oi.op ≠ .select cs b) (hsj:∀ cs b,oj.op ≠ .select cs b) (hcc:isCall oi = false ∨ isCall oj = false) {K:Nat → Act → Prop} {a:Act}
  (hy:LY P ops C oi v a k k1) (h:linOp P ops C j K k1 (a.put oi.dst v)) :
  linOp P ops C j (fun k' a' => ∃ k1',LY P ops C oi v a' k' k1' ∧ K k1' (a'.put oi.dst v)) k a:=by
 obtain ⟨h1,h2,h3⟩:=Oper.apart_spec hap
 have keep:∀ (u:Value) (m m':Nat),LY P ops C oi v a m m' → LY P ops C oi v (a.put oj.dst u) m m':=fun u m m' hy =>
  hy.of_same (execOp_put oi hsi a oj.dst u h3) (wanted_put oi a oj.dst u h3)
 unfold linOp at *
 simp only [hj] at *
 obtain ⟨u,k2,hu,hK⟩:=h
 have hu':LY P ops C oj u a k1 k2:=hu.of_same (execOp_put oj hsj a oi.dst v h1).symm (wanted_put oj a oi.dst v h1).symm
 rw [Act.put_comm a v u h2] at hK
 rcases hcc with hc | hc
 ·obtain ⟨rfl,hany⟩:=hy.step hc
  exact ⟨u,k2,hu',k2,keep u _ _ (hany k2),hK⟩
 ·obtain ⟨rfl,hany⟩:=hu'.step hc
  exact ⟨u,k,hany k,k2,keep u _ _ hy,hK⟩
def Pre (ops:Array Oper) (listed:Array Bool):Prop:=∀ i j oi oj,ops[i]? = some oi → ops[j]? = some oj → isCall oi = true → isCall oj = true → i < j → listed.getD j false = true → listed.getD i false = true
theorem getD_both {listed:Array Bool} {i:Nat} (h:listed.getD i true = false):listed.getD i false = false:=by
 rcases Nat.lt_or_ge i listed.size with h' | h'
 ·simp [h'] at h ⊢;exact h
 ·simp [Array.getElem?_eq_none h']
theorem Pre.next (hch:chainB md ops = true) {listed:Array Bool} (h:Pre ops listed) {j:Nat} (hj:j ∈ Region.ready md ops listed):Pre ops (listed.setIfInBounds j true):=by
 intro i m oi om hi hm ci cm him hl
 obtain ⟨hun,oj,hoj,hall⟩:=mem_ready.1 hj
 by_cases hmj:j = m
 ·subst hmj
  rw [hoj] at hm;cases hm
  obtain ⟨p,op,hip,hpj,hp,cp,e,he,hb,heq⟩:=chainB_spec hch hi hoj ci cm him
  have hp':=hall e he hb
  rw [heq] at hp'
  refine getD_set_true ?_
  by_cases hpi:i = p
  ·subst hpi;exact hp'
  ·exact h i p oi op hi hp ci cp (by omega) hp'
 ·rw [getD_set_ne false hmj] at hl
  exact getD_set_true (h i m oi om hi hm ci cm him hl)
theorem wpAnyL_first (hch:chainB md ops = true) {Q:Nat → Act → Prop} {i:Nat} {oi:Oper} {v:Value} (hi:ops[i]? = some oi) (hsel:∀ (j:Nat) (o:Oper) cs b,ops[j]? = some o → o.op ≠ .select cs b) :
  ∀ (fuel:Nat) (listed:Array Bool) (k k1:Nat) (a:Act),Pre ops listed → (∀ j,j < i → listed.getD j true = true) →
   (∀ j oj,ops[j]? = some oj → j ≠ i → listed.getD j true = false → (∀ e ∈ oj.after,Region.binds md e = true → e.on ≠ i) → oi.apart ops oj = true) →
   i ∈ Region.ready md ops listed → LY P ops C oi v a k k1 →
   wpAnyL P md ops C Q fuel (listed.setIfInBounds i true) k1 (a.put oi.dst v) → wpAnyL P md ops C Q (fuel + 1) listed k a:=by
 intro fuel
 induction fuel with
 | zero =>
  intro listed k k1 a _ _ _ hr hy H
  refine ⟨fun h => (by rw [h] at hr;cases hr),fun j hj => ?_⟩
  by_cases hji:j = i
  ·subst hji;exact hy.linOp hi H
  ·have:=ready_mono hj hji
   rw [H.1] at this
   cases this
 | succ fuel ih =>
  intro listed k k1 a hpre hlow hfree hr hy H
  refine ⟨fun h => (by rw [h] at hr;cases hr),fun j hj => ?_⟩
  by_cases hji:j = i
  ·subst hji;exact hy.linOp hi H
  ·have h1:=H.2 j (ready_mono hj hji)
   obtain ⟨hjun,oj,hoj,hall⟩:=mem_ready.1 hj
   have hnot:∀ e ∈ oj.after,Region.binds md e = true → e.on ≠ i:=fun e he hb heq => by
    have h1:=hall e he hb
    have h0:=getD_both (mem_ready.1 hr).1
    rw [heq,h0] at h1
    cases h1
   have hij:i < j:=by
    rcases Nat.lt_or_ge j i with h' | h'
    ·rw [hlow j h'] at hjun;cases hjun
    ·omega
   have hcc:isCall oi = false ∨ isCall oj = false:=by
    cases ci:isCall oi with
    | false => exact .inl rfl
    | true =>
     refine .inr ?_
     cases cj:isCall oj with
     | false => rfl
     | true =>
      obtain ⟨p,op,hip,hpj,hp,cp,e,he,hb,heq⟩:=chainB_spec hch hi hoj ci cj hij
      have hp':=hall e he hb
      rw [heq] at hp'
      have h0:=getD_both (mem_ready.1 hr).1
      by_cases hpi:i = p
      ·subst hpi;rw [h0] at hp';cases hp'
      ·have:=hpre i p oi op hi hp ci cp (by omega) hp'
       rw [h0] at this;cases this
   have h2:=linOp_put hoj (hfree j oj hoj hji hjun hnot) (fun cs b => hsel i oi cs b hi) (fun cs b => hsel j oj cs b hoj) hcc hy h1
   have hfree':∀ k ok,ops[k]? = some ok → k ≠ i → (listed.setIfInBounds j true).getD k true = false →
     (∀ e ∈ ok.after,Region.binds md e = true → e.on ≠ i) → oi.apart ops ok = true:=fun k ok hk hki hun hno => by
    refine hfree k ok hk hki ?_ hno
    by_cases hjk:j = k
    ·subst hjk;exact hjun
    ·rw [getD_set_ne true hjk] at hun;exact hun
   have hlow':∀ m,m < i → (listed.setIfInBounds j true).getD m true = true:=fun m hm => by rw [getD_set_ne true (by omega)];exact hlow m hm
   refine linOp_mono (fun k' a' h3 => ?_) h2
   obtain ⟨k1',hy',hK'⟩:=h3
   refine ih (listed.setIfInBounds j true) k' k1' a' (hpre.next hch hj) hlow' hfree' (ready_mono hr (Ne.symm hji)) hy' ?_
   rw [Array.setIfInBounds_comm _ _ hji]
   exact hK'
def wpLin (P:Program) (ops:Array Oper) (C:Nat → World → Prop) (Q:Nat → Act → Prop):List Oper → Nat → Act → Prop
 | [],k,a => Q k a
 | o :: rest,k,a => ∃ v k',LY P ops C o v a k k' ∧ wpLin P ops C Q rest k' (a.put o.dst v)
theorem wpAnyL_lex (hch:chainB md ops = true) {Q:Nat → Act → Prop} (hs:Region.noSelect ops = true):∀ (l:List Oper) (n:Nat) (listed:Array Bool) (k:Nat) (a:Act),Pre ops listed → (∀ j,j < n → listed.getD j true = true) → (∀ j,l[j]? = ops[n + j]?) →
  Region.lexFrom md ops l.length n listed = true → wpLin P ops C Q l k a → wpAnyL P md ops C Q l.length listed k a
 | [],_,_,_,_,_,_,_,hB,h => ⟨by simpa [Region.lexFrom] using hB,h⟩
 | o :: l,n,listed,k,a,hpre,hlow,hl,hB,h => by
  have h0:ops[n]? = some o:=by simpa using (hl 0).symm
  simp only [List.length_cons,Region.lexFrom,Bool.and_eq_true] at hB
  obtain ⟨⟨hr,hf⟩,hB'⟩:=hB
  have hr':n ∈ Region.ready md ops listed:=by simpa using hr
  obtain ⟨v,k',hy,hK⟩:=h
  refine wpAnyL_first hch h0 (Region.noSelect_spec hs) l.length listed k k' a hpre hlow (Region.free_spec h0 hf) hr' hy
   (wpAnyL_lex hch hs l (n + 1) _ _ _ (hpre.next hch hr') (fun j hj => ?_) (fun j => by have:=hl (j + 1);simpa [Nat.add_assoc,Nat.add_comm 1 j] using this) hB' hK)
  by_cases hjn:n = j
  ·subst hjn
   rcases Nat.lt_or_ge n listed.size with h' | h'
   ·simp [h']
   ·simp [h']
  ·rw [getD_set_ne true hjn];exact hlow j (by omega)
/-! ### Steps of the walk -/
theorem v_no_enter (s:Sem Value) (w:World) (f:FuncId) (args:Array Value) (w':World):(do pure (.value (← s)):Sem Next).run P w ≠ .ok (.enter f args) w':=by
 rw [Sem.run_bind]
 cases s.run P w <;> simp [Result.andThen,Sem.run_pure]
theorem plain_no_enter {o:Oper} (ho:plainOp o = true) (a:Act) (w:World) (f:FuncId) (args:Array Value) (w':World):(execOp a.eval o).run P w ≠ .ok (.enter f args) w':=by
 unfold plainOp at ho
 unfold execOp
 split at ho
 case h_3 c x y hop =>
  simp only [hop]
  rw [Sem.run_bind]
  cases (asBool (a.eval c)).run P w <;> simp [Result.andThen,Sem.run_pure]
 case h_15 => cases ho
 all_goals
  rename_i hop
  simp only [hop]
  first | exact v_no_enter _ w f args w' | (rw [Sem.run_pure];intro h;cases h)
theorem wpLin_nil {Q:Nat → Act → Prop} {k:Nat} {a:Act} (h:Q k a):wpLin P ops C Q [] k a:=h
theorem lin_seg {Q:Nat → Act → Prop} {k:Nat}:∀ (seg rest:List Oper) (a:Act),seg.all (fun o => plainOp o && !isCall o) = true →
  wpQuiet P ops (fun w' => ∃ s:InW (fun w => ∃ k,C k w),w' = s.W) (fun a' => wpLin P ops C Q rest k a') seg a → wpLin P ops C Q (seg ++ rest) k a
 | [],rest,a,_,h => h
 | o :: seg,rest,a,hp,h => by
  rw [List.all_cons,Bool.and_eq_true,Bool.and_eq_true,Bool.not_eq_true'] at hp
  obtain ⟨⟨hpl,hnc⟩,hp'⟩:=hp
  unfold wpQuiet at h
  by_cases hw:Region.wanted o (yielded ops a.tmps) = true
  ·rw [if_pos hw] at h
   obtain ⟨v,h1,h2⟩:=h
   refine ⟨v,k,.inl ⟨hw,.inr ⟨hnc,fun w hC => ?_,rfl⟩⟩,lin_seg seg rest _ hp' h2⟩
   have h3:=h1 w ⟨⟨w,hC⟩,rfl⟩
   unfold Oper.quietAt at h3
   have h4:=fun f args w' => plain_no_enter (P:=P) hpl a w f args w'
   generalize (execOp a.eval o).run P w = r at *
   cases r with
   | ok n w' =>
    cases n <;> simp only [Oper.quietUpon] at h3 <;> simp only [stillUpon]
    ·exact h3
    ·exact h3
    ·exact (h4 _ _ _ rfl).elim
   | halt x w' => simp only [Oper.quietUpon] at h3
  ·rw [if_neg hw] at h
   exact ⟨undef,k,.inr ⟨by simpa using hw,rfl,rfl⟩,lin_seg seg rest _ hp' h⟩
theorem lin_take {Q:Nat → Act → Prop} {k:Nat} (n:Nat) {l:List Oper} {a:Act} (hp:(l.take n).all (fun o => plainOp o && !isCall o) = true)
  (h:wpQuiet P ops (fun w' => ∃ s:InW (fun w => ∃ k,C k w),w' = s.W) (fun a' => wpLin P ops C Q (l.drop n) k a') (l.take n) a):wpLin P ops C Q l k a:=by
 have:=lin_seg (l.take n) (l.drop n) a hp h
 rwa [List.take_append_drop] at this
theorem lin_call {Q:Nat → Act → Prop} {k:Nat} {o:Oper} {rest:List Oper} {a:Act} (hw:Region.wanted o (yielded ops a.tmps) = true) (hc:isCall o = true) (f:FuncId) (args:Array Value) (v:Value)
  (he:∀ w,(execOp a.eval o).run P w = .ok (.enter f args) w) (hcall:∀ w,C k w → Calls P f args w fun e w' => e = .returned v ∧ C (k + 1) w')
  (h:wpLin P ops C Q rest (k + 1) (a.put o.dst v)):wpLin P ops C Q (o :: rest) k a :=
 ⟨v,k + 1,.inl ⟨hw,.inl ⟨hc,fun w hC => by rw [he];exact ⟨rfl,hcall w hC⟩,rfl⟩⟩,h⟩
theorem wp_region_lin (C:Nat → World → Prop) {id:Nat} {Q:Exit → Act → World → Prop} {a:Act} {w:World} {l:List Oper} (hm:P.follows .mixedOrders = true) (hB:Region.lexB .any l.toArray = true) (hch:chainB .any l.toArray = true) (hC:C 0 { w with drawn:=w.drawn + 1 })
  (h:Nonempty (InW fun w => ∃ k,C k w) → wpLin P l.toArray C (fun k a' => ∀ w',C k w' → Q .normal a' w') l 0 a):(Code.region id l.toArray true).wp P Q a w:=by
 simp only [Region.lexB,Bool.and_eq_true] at hB
 refine wp_region_any hm (wpAny_of_lin (Q:=fun k a' => ∀ w',C k w' → Q .normal a' w') (fun _ _ w' hw' h => h w' hw') _ _ 0 _ _ hC ?_)
 have:=wpAnyL_lex (C:=C) (md:=.any) hch hB.1 l 0 (Array.replicate l.toArray.size false) 0 a (fun i j oi oj hi hj ci cj hij hl => by
   rcases Nat.lt_or_ge j l.toArray.size with h' | h'
   ·rw [List.size_toArray] at h';simp [h'] at hl
   ·rw [List.size_toArray] at h';simp [h'] at hl) (fun j hj => by omega) (by simp) (by simpa using hB.2) (h ⟨⟨_,0,hC⟩⟩)
 simpa using this
end
theorem wpLin_frame {P:Program} {ops:Array Oper} {C:Nat → World → Prop} {Q:Nat → Act → Prop} {l:List Oper} {k:Nat} {a a':Act} (e:a = a') (h:wpLin P ops C Q l k a'):wpLin P ops C Q l k a:=e ▸ h
end Go.Proofs.YtphamecphmbipaaGreatDoor

namespace Go.Proofs.YtphamecphmbipaaGreatDoor
open Go.RowKit Go.Shelf
set_option linter.unusedVariables false
theorem InoAt.range {w:World} {g:Nat} {T:TypeId} {x:Ino} (h:InoAt w g T x):w.rangeAt g 0 x.arr.toList:=by
 intro j v hj
 rw [Nat.zero_add]
 exact cell_of_heap h (by simpa using hj)
theorem rput_any (z:Nat → Int) (hz:Byt z) (a:Int) (x:Ino) (hx:x.Ok) (w:World) :
  Calls Tryz.prog 63 #[bval z,.int .i64 a,x.val] w fun e w' => e = .returned (.tuple #[bval (putZ z a x),.int .i64 (putErr a x)]) ∧ Below w.heap.size w w':=by
 cases hok:putOk a x with
 | true =>
  have he:putErr a x = 0:=by unfold putOk at hok;rw [Bool.and_eq_true] at hok;unfold putErr;rw [hok.1,hok.2];rfl
  rw [he,putZ,hok,if_pos rfl]
  exact rput_yes z hz a x hx w hok
 | false =>
  rw [putZ,hok]
  exact rput_no z a x hx w hok
end Go.Proofs.YtphamecphmbipaaGreatDoor
