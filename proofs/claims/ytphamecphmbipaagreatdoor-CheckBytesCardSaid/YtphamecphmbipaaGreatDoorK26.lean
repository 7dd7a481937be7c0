/- Texts of this claim, merged by a program (a claim may have 60 files): Tab, MoveBar, MoveIn2, CopyL, Pk15, Pk16, Pk17, TabB, Pk18, Pk19. -/
import Derived.Test.YtphamecphmbipaaGreatDoorK17
import Derived.Test.YtphamecphmbipaaGreatDoorK09
import Derived.Test.YtphamecphmbipaaGreatDoorK14
import Derived.RangeFuncCalls
import Derived.Test.YtphamecphmbipaaGreatDoorK05
import Derived.Test.YtphamecphmbipaaGreatDoorK07
import Derived.Laws.AppendOwnNone
import Derived.Test.YtphamecphmbipaaGreatDoorK04
import Derived.Laws.OwnMore
namespace Go.Proofs.YtphamecphmbipaaGreatDoor.Tb
open Go.RowKit
set_option linter.unusedVariables false
def inSt (sk:List (Nat × Nat × Nat)) (n:Nat):Bool:=sk.any fun x => x.2.2 == n
def inAl (sk:List (Nat × Nat × Nat)) (n:Nat):Bool:=sk.any fun x => x.1 == n
def readsT (o:Oper) (s:Nat):Bool:=o.op.operands.toList.any fun x => match x with | .tmp t => t == s | _ => false
section
variable {P:Program}
theorem eval_same {a b:Act} {x:Operand} (h:∀ s,x = .tmp s → a.tmps.getD s undef = b.tmps.getD s undef):a.eval x = b.eval x:=by
 cases x with
 | tmp t => exact h t rfl
 | const v => rfl
 | global g => rfl
 | func f => rfl
theorem reads_mem {o:Oper} {x:Operand} {s:Nat} (hx:x ∈ o.op.operands) (he:x = .tmp s):readsT o s = true:=by
 unfold readsT
 rw [List.any_eq_true]
 exact ⟨x,by simpa using hx,by rw [he];simp⟩
theorem walk_get {ops:Array Oper} {C:World → Prop} {A:Act}:∀ (l:List Oper) (a:Act),(∀ o ∈ l,o.guard = none ∧ (∀ cs b,o.op ≠ .select cs b) ∧ ∃ d,o.dst = some d ∧ d < a.tmps.size) → l.Pairwise (fun x y => x.dst ≠ y.dst ∧ (∀ d,y.dst = some d → readsT x d = false)) → (∀ o ∈ l,∀ d,o.dst = some d → readsT o d = false) →
  wpQuiet P ops C (fun a' => a' = A) l a → A.defers = a.defers ∧ A.tmps.size = a.tmps.size ∧ (∀ s,(∀ o ∈ l,o.dst ≠ some s) → A.tmps.getD s undef = a.tmps.getD s undef) ∧ ∀ o ∈ l,∀ d,o.dst = some d → ∀ w,C w → o.quietAt P A C w (A.tmps.getD d undef)
 | [],a,_,_,_,h => by
  have h:a = A:=h
  subst h
  exact ⟨rfl,rfl,fun _ _ => rfl,fun o ho => by cases ho⟩
 | o :: l,a,hg,hp,hr,h => by
  obtain ⟨hgo,hso,d,hd,hlt⟩:=hg o (by simp)
  obtain ⟨hp1,hp2⟩:=List.pairwise_cons.1 hp
  unfold wpQuiet at h
  rw [if_pos (by unfold Region.wanted;rw [hgo])] at h
  obtain ⟨v,hv,hk⟩:=h
  rw [hd] at hk
  obtain ⟨i1,i2,i3,i4⟩:=walk_get l (a.put (some d) v) (fun o' ho' => by
   obtain ⟨h1,h2,d',h3,h4⟩:=hg o' (by simp [ho'])
   exact ⟨h1,h2,d',h3,by rw [put_size];exact h4⟩) hp2 (fun o' ho' => hr o' (by simp [ho'])) hk
  have hAd:A.tmps.getD d undef = v:=by
   rw [i3 d (fun o' ho' e => (hp1 o' ho').1 (hd.trans e.symm))]
   exact put_same _ _ _ hlt
  have hoth:∀ s,(∀ o' ∈ o :: l,o'.dst ≠ some s) → A.tmps.getD s undef = a.tmps.getD s undef:=fun s hs => by
   rw [i3 s (fun o' ho' => hs o' (by simp [ho']))]
   exact put_other _ _ _ _ (fun e => hs o (by simp) (by rw [hd,e]))
  refine ⟨i1,i2.trans (put_size _ _ _),hoth,?_⟩
  intro o' ho' d' hd' w hw
  rcases List.mem_cons.1 ho' with rfl | ho'
  ·have e:d = d':=by rw [hd] at hd';injection hd'
   subst e
   rw [hAd]
   have:=hv w hw
   unfold Oper.quietAt at this ⊢
   rw [execOp_congr (ρ:=A.eval) (ρ':=a.eval) o' hso fun x hx => eval_same fun s hs => ?_]
   ·exact this
   ·refine hoth s fun o2 ho2 e => ?_
    have h1:=reads_mem hx hs
    rcases List.mem_cons.1 ho2 with rfl | ho2
    ·rw [hr o2 (by simp) s e] at h1;cases h1
    ·rw [(hp1 o2 ho2).2 s e] at h1;cases h1
  ·exact i4 o' ho' d' hd' w hw
structure Ok (md:Region.Mode) (L:List Oper) (sk:List (Nat × Nat × Nat)) (i:Nat) (o:Oper):Prop where
 g:o.guard = none
 s:∀ cs b,o.op ≠ .select cs b
 r:∀ j oj d,L[j]? = some oj → oj.dst = some d → readsT o d = true → ∃ e ∈ o.after,Region.binds md e = true ∧ e.on = j
 d:∀ j oj d,L[j]? = some oj → oj.dst = some d → j ≠ i → o.dst ≠ some d
 a:∀ j oj d,L[j]? = some oj → oj.dst = some d → inAl sk j = true → inSt sk i = false → readsT o d = false
 st:inSt sk i = true → o.dst = none ∧ inAl sk i = false ∧ ∀ x ∈ sk,x.2.2 = i → ∃ e ∈ o.after,Region.binds md e = true ∧ e.on = x.1
 ns:inSt sk i = false → (∃ d,o.dst = some d) ∧ ∀ x ∈ sk,(x.1 = i → o.dst = some x.2.1) ∧ (x.1 ≠ i → o.dst ≠ some x.2.1)
theorem steps_of {md:Region.Mode} {ops:Array Oper} {Q:Exit → Act → World → Prop} {I:(Nat → Bool) → Act → World → Prop}:∀ (l:List Oper) (n:Nat),(∀ i o,l[i]? = some o → ∀ l' a w,l' (n + i) = false → upB md o l' = true → I l' a w → wpOp P ops Q (n + i) (I (fun j => j == (n + i) || l' j)) a w) → StepsI P md ops Q I n l
 | [],_,_ => trivial
 | o :: l,n,h => ⟨fun l' a w h1 h2 h3 => h 0 o rfl l' a w h1 h2 h3,steps_of l (n + 1) fun i o' hi l' a w h1 h2 h3 => by
   have:=h (i + 1) o' (by simpa using hi) l' a w (by rw [show n + (i + 1) = n + 1 + i by omega];exact h1) h2 h3
   rwa [show n + (i + 1) = n + 1 + i by omega] at this⟩
theorem up_of {md:Region.Mode} {o:Oper} {l:Nat → Bool} (h:upB md o l = true) {e:Edge} (he:e ∈ o.after) (hb:Region.binds md e = true):l e.on = true:=by
 unfold upB at h
 rw [Array.all_eq_true'] at h
 have:=h e he
 rwa [hb,Bool.not_true,Bool.false_or] at this
end
end Go.Proofs.YtphamecphmbipaaGreatDoor.Tb

namespace Go.Proofs.YtphamecphmbipaaGreatDoor
open Go.RowKit
set_option linter.unusedVariables false
section
variable {P:Program} {md:Region.Mode} {ops:Array Oper}
theorem bar_head3 {σ:Type} {n:Nat} {ops1:Array Oper} {l2:List Oper} {C:σ → World → Prop} (hb:barB2 md n ops = true) (hd:downB md ops = true) (hd1:downB md ops1 = true) (hn1:ops1.size = n) (h1:∀ i,i < n → ops1[i]? = ops[i]?) (hl:∀ j,l2[j]? = ops[n + j]?)
  {Q:Exit → Act → World → Prop} {Q1:σ → Act → Prop} (hQ:∀ s a w,C s w → Q1 s a → wpList P ops Q l2 a w):∀ (fuel:Nat) (listed1 listed:Array Bool) (s:σ) (a:Act) (w:World),C s w → Mv.Cl md ops listed → listed1.size = n → listed.size = ops.size →
   (∀ i,i < n → listed1[i]? = listed[i]?) → (∀ i,n ≤ i → i < ops.size → listed.getD i true = false) → Mv.wpAnyL P md ops1 C Q1 fuel listed1 s a → wpAny P md ops Q (l2.length + fuel) listed a w:=by
 have hnn:n ≤ ops.size:=by
  rcases Nat.lt_or_ge ops.size n with h | h
  ·have:=h1 ops.size h
   rw [Array.getElem?_eq_none (Nat.le_refl _),Array.getElem?_eq_none_iff] at this
   omega
  ·exact h
 have done:∀ (fuel:Nat) (listed1 listed:Array Bool) (s:σ) (a:Act) (w:World),C s w → listed1.size = n → listed.size = ops.size → (∀ i,i < n → listed1[i]? = listed[i]?) → (∀ i,n ≤ i → i < ops.size → listed.getD i true = false) →
   Region.ready md ops1 listed1 = [] → Q1 s a → wpAny P md ops Q (l2.length + fuel) listed a w:=fun fuel listed1 listed s a w hw hs1 hs hll h0 hr hq => by
  refine bar_tail2 hb hd l2 n fuel listed a w (Nat.le_refl _) hl hs (fun i hi => ?_) h0 (hQ s a w hw hq)
  have:=ready_nil hd1 (by omega) hr i (by omega)
  rw [Array.getD_eq_getD_getElem?,hll i hi,← Array.getD_eq_getD_getElem?] at this
  exact this
 intro fuel
 induction fuel with
 | zero => intro listed1 listed s a w hw hcl hs1 hs hll h0 h;exact done 0 listed1 listed s a w hw hs1 hs hll h0 h.1 h.2
 | succ fuel ih =>
  intro listed1 listed s a w hw hcl hs1 hs hll h0 h
  by_cases hr:Region.ready md ops1 listed1 = []
  ·exact done _ listed1 listed s a w hw hs1 hs hll h0 hr (h.1 hr)
  ·obtain ⟨i0,hi0⟩:=List.exists_mem_of_ne_nil _ hr
   obtain ⟨hu0,o0,ho0,hall0⟩:=mem_ready.1 hi0
   have hi0n:i0 < n:=by rw [← hn1];exact (Array.getElem?_eq_some_iff.1 ho0).1
   have get:∀ i,i < n → ∀ d,listed1.getD i d = listed.getD i d:=fun i hi d => by rw [Array.getD_eq_getD_getElem?,Array.getD_eq_getD_getElem?,hll i hi]
   have up:i0 ∈ Region.ready md ops listed:=mem_ready.2 ⟨by rw [← get i0 hi0n];exact hu0,o0,by rw [← h1 i0 hi0n];exact ho0,fun e he hbe => by
    have hlt:=downB_spec hd1 ho0 he hbe
    rw [← get e.on (by omega)];exact hall0 e he hbe⟩
   rw [show l2.length + (fuel + 1) = (l2.length + fuel) + 1 by omega]
   refine ⟨fun hrr => (by rw [hrr] at up;cases up),fun i hi => ?_⟩
   obtain ⟨hu,o,ho,hall⟩:=mem_ready.1 hi
   have hin:i < n:=by
    rcases Nat.lt_or_ge i n with hh | hh
    ·exact hh
    ·have hx:=hcl.reach hall ho (barB_wait2 hb ho hh (i:=i0) (by omega))
     rw [← get i0 hi0n] at hx
     rw [Array.getD_eq_getD_getElem?,Array.getElem?_eq_getElem (by omega)] at hx hu0
     simp at hx hu0
     rw [hx] at hu0;cases hu0
   have ho1:ops1[i]? = some o:=by rw [h1 i hin];exact ho
   have hi1:i ∈ Region.ready md ops1 listed1:=mem_ready.2 ⟨by rw [get i hin];exact hu,o,ho1,fun e he hbe => by
    have hlt:=downB_spec hd1 ho1 he hbe
    rw [get e.on (by omega)];exact hall e he hbe⟩
   have hq:=h.2 i hi1
   have hwant:∀ a:Act,Region.wanted o (yielded ops1 a.tmps) = Region.wanted o (yielded ops a.tmps):=fun a => by
    unfold Region.wanted
    cases hg:o.guard with
    | none => rfl
    | some p =>
     obtain ⟨g,b⟩:=p
     have:=barB_guard2 hb ho hin hg
     simp only [yielded,h1 g this]
   have hq':Mv.linOp P ops C i (Mv.wpAnyL P md ops1 C Q1 fuel (listed1.setIfInBounds i true)) s a:=by
    unfold Mv.linOp at hq ⊢
    simp only [ho1] at hq
    simp only [ho]
    unfold Mv.LX at hq ⊢
    rw [← hwant]
    exact hq
   refine Mv.wpOp_of_lin hw (fun s' a' w' hw' h' => ih (listed1.setIfInBounds i true) (listed.setIfInBounds i true) s' a' w' hw' (hcl.next hi) (by simpa using hs1) (by simpa using hs) (fun j hj => ?_) (fun j hj hjs => ?_) h') hq'
   ·by_cases hji:i = j
    ·subst hji;simp [hs1,hs,hj,show i < ops.size by omega]
    ·rw [Array.getElem?_setIfInBounds_ne hji,Array.getElem?_setIfInBounds_ne hji];exact hll j hj
   ·rw [Array.getD_eq_getD_getElem?,Array.getElem?_setIfInBounds_ne (by omega),← Array.getD_eq_getD_getElem?];exact h0 j hj hjs
theorem wp_region_mb {σ:Type} (C:σ → World → Prop) (s:σ) (n:Nat) {id:Nat} {Q:Exit → Act → World → Prop} {a:Act} {w:World} {L:List Oper} (hm:P.follows .mixedOrders = true) (hB:Region.lexB .any (L.take n).toArray = true) (hch:Mv.chainC .any (L.take n).toArray = true)
  (hb:barB2 .any n L.toArray = true) (hd:downB .any L.toArray = true) (hd1:downB .any (L.take n).toArray = true) (hn:n ≤ L.length) (hC:C s { w with drawn:=w.drawn + 1 })
  (h:Nonempty (InW fun w => ∃ s,C s w) → Mv.wpLin P (L.take n).toArray C (fun s a' => ∀ w',C s w' → wpList P L.toArray Q (L.drop n) a' w') (L.take n) s a):(Code.region id L.toArray true).wp P Q a w:=by
 simp only [Region.lexB,Bool.and_eq_true] at hB
 have hlen:(L.take n).length = n:=by simp [Nat.min_eq_left hn]
 have hq:=Mv.wpAnyL_lexC (P:=P) (C:=C) (md:=.any) Mv.calls_some hch (Q:=fun s a' => ∀ w',C s w' → wpList P L.toArray Q (L.drop n) a' w') hB.1 (L.take n) 0 (Array.replicate n false) s a ⟨_,hC⟩ (fun j oj hj hl => by
   rcases Nat.lt_or_ge j n with h' | h'
   ·simp [h'] at hl
   ·simp [h'] at hl) (fun j hj => by omega) (by simp) (by have:=hB.2;simpa [Nat.min_eq_left hn] using this) (h ⟨⟨_,s,hC⟩⟩)
 rw [hlen] at hq
 have:=bar_head3 (P:=P) (md:=.any) (ops:=L.toArray) (ops1:=(L.take n).toArray) (l2:=L.drop n) (n:=n) (C:=C) hb hd hd1 (by simp [Nat.min_eq_left hn]) (fun i hi => by simp [hi]) (fun j => by simp)
  (Q:=Q) (Q1:=fun s a' => ∀ w',C s w' → wpList P L.toArray Q (L.drop n) a' w') (fun s a w hw h => h w hw) n (Array.replicate n false) (Array.replicate L.length false) s a { w with drawn:=w.drawn + 1 } hC (fun j oj hj hl e he hbe => by
   rcases Nat.lt_or_ge j L.length with h' | h'
   ·simp [h'] at hl
   ·simp [h'] at hl) (by simp) (by simp)
  (fun i hi => by simp [hi,show i < L.length by omega]) (fun i hi hs => by simp at hs;simp [hs]) hq
 rw [show (L.drop n).length + n = L.length by simp;omega] at this
 refine wp_region_any hm ?_
 simpa using this
end
end Go.Proofs.YtphamecphmbipaaGreatDoor

namespace Go.Proofs.YtphamecphmbipaaGreatDoor.Mv
open Go.RowKit Go.Proofs.YtphamecphmbipaaGreatDoor
set_option linter.unusedVariables false
def noDefer (o:Oper):Bool:=match o.op with | .defer _ => false | _ => true
section
variable {m:Nat} {P:Program} {ops:Array Oper} {md:Region.Mode} {σ:Type} {C:σ → World → Prop} {lp:Nat}
theorem no_defer {o:Oper} (ho:noDefer o = true) (c):o.op ≠ .defer c:=by
 intro h;unfold noDefer at ho;rw [h] at ho;cases ho
theorem wpOpIn_of_lin2 (ht:ops.all noDefer = true) {i:Nat} {s:σ} {a:Act} {K:σ → Act → Prop} {K':Act → World → Prop} {Q':Exit → Act → World → Prop} {w:World} (hC:C s w) (h:∀ s a w',C s w' → K s a → K' a w') (hh:linOp P ops C i K s a) :
  wpOpIn (Fence.wide.inRound lp) m P ops Q' i K' a w:=by
 unfold linOp at hh
 unfold wpOpIn
 split
 ·rename_i ho;simp only [ho] at hh;exact h _ _ _ hC hh
 ·rename_i o ho
  simp only [ho] at hh
  have hta:noDefer o = true:=by
   rw [Array.all_eq_true_iff_forall_mem] at ht
   exact ht o (Array.mem_of_getElem? ho)
  have hab:∀ f,o.about P w a.eval = some f → (Fence.wide.inRound lp).fn f:=fun f _ => trivial
  rcases hh with ⟨hw,hy⟩ | ⟨hw,hk⟩
  ·simp only [hw,if_true]
   unfold Oper.wpIn
   refine ⟨hab,?_⟩
   rw [Oper.semAt_plain _ _ _ (no_defer hta)]
   rcases hy with ⟨_,hk⟩ | ⟨_,v,hs,hk⟩
   ·have h3:=hk w hC
    generalize (execOp a.eval o).run P w = r at *
    cases r with
    | ok n w' =>
     cases n <;> simp only [movesUpon] at h3 <;> simp only [Oper.uponIn]
     ·obtain ⟨s',h4,h5⟩:=h3;exact h _ _ _ h4 h5
     ·obtain ⟨s',h4,h5⟩:=h3;exact h _ _ _ h4 h5
     ·refine ⟨fun e => by simp [Fence.wide] at e,CallsIn.inRound lp (callsIn_wide.2 (h3.mono ?_))⟩
      rintro e w2 ⟨v,rfl,s',h4,h5⟩
      exact h _ _ _ h4 h5
    | halt x w' => simp only [movesUpon] at h3
   ·have h3:=hs w ⟨_,hC⟩
    generalize (execOp a.eval o).run P w = r at *
    cases r with
    | ok n w' =>
     cases n <;> simp only [stillUpon] at h3 <;> simp only [Oper.uponIn]
     ·obtain ⟨rfl,rfl⟩:=h3;exact h _ _ _ hC hk
     ·obtain ⟨rfl,rfl⟩:=h3;exact h _ _ _ hC hk
    | halt x w' => simp only [stillUpon] at h3
  ·rw [if_neg (by rw [hw];decide)]
   exact ⟨hab,h _ _ _ hC hk⟩
theorem wpAnyIn_of_lin2 (ht:ops.all noDefer = true) {Q:σ → Act → Prop} {Q':Exit → Act → World → Prop} (hQ:∀ s a w,C s w → Q s a → Q' .normal a w):∀ (fuel:Nat) (listed:Array Bool) (s:σ) (a:Act) (w:World),C s w →
  wpAnyL P md ops C Q fuel listed s a → wpAnyIn (Fence.wide.inRound lp) m P md ops Q' fuel listed a w
 | 0,_,_,_,_,hw,h => ⟨h.1,hQ _ _ _ hw h.2⟩
 | fuel + 1,_,_,_,_,hw,h => ⟨fun h0 => hQ _ _ _ hw (h.1 h0),fun i hi => wpOpIn_of_lin2 ht hw (fun s' a' w' hw' => wpAnyIn_of_lin2 ht hQ fuel _ s' a' w' hw') (h.2 i hi)⟩
theorem wpIn_region_mw (C:σ → World → Prop) (s:σ) {id:Nat} {Q:Exit → Act → World → Prop} {a:Act} {w:World} {l:List Oper} (hm:P.follows .mixedOrders = true) (hB:Region.lexB .any l.toArray = true) (hch:chainC .any l.toArray = true) (ht:l.toArray.all noDefer = true) (hC:C s { w with drawn:=w.drawn + 1 })
  (h:Nonempty (InW fun w => ∃ s,C s w) → wpLin P l.toArray C (fun s a' => ∀ w',C s w' → Q .normal a' w') l s a):(Code.region id l.toArray true).wpIn (Fence.wide.inRound lp) m P Q a w:=by
 simp only [Region.lexB,Bool.and_eq_true] at hB
 refine wpIn_region_any hm (wpAnyIn_of_lin2 ht (Q:=fun s a' => ∀ w',C s w' → Q .normal a' w') (fun _ _ w' hw' h => h w' hw') _ _ s _ _ hC ?_)
 have:=wpAnyL_lexC (C:=C) (md:=.any) calls_some hch hB.1 l 0 (Array.replicate l.toArray.size false) s a ⟨_,hC⟩ (fun j oj hj hl => by
   rcases Nat.lt_or_ge j l.toArray.size with h' | h'
   ·rw [List.size_toArray] at h';simp [h'] at hl
   ·rw [List.size_toArray] at h';simp [h'] at hl) (fun j hj => by omega) (by simp) (by simpa using hB.2) (h ⟨⟨_,s,hC⟩⟩)
 simpa using this
def Nm (Q:Exit → Act → World → Prop):Exit → Act → World → Prop
 | .normal,a,w => Q .normal a w
 | _,_,_ => False
theorem Nm.mk {Q:Exit → Act → World → Prop} {a:Act} {w:World} (h:Q .normal a w):Nm Q .normal a w:=h
theorem Nm.no (Q:Exit → Act → World → Prop):¬ LetsOut (Nm Q):=fun ⟨_,_,h⟩ => h
theorem wpOpIn_of_op {Q:Exit → Act → World → Prop} {i:Nat} {K K':Act → World → Prop} (ht:ops.all noDefer = true) (hK:∀ a w,K a w → K' a w) {a:Act} {w:World} (h:wpOp P ops (Nm Q) i K a w) :
  wpOpIn (Fence.wide.inRound lp) m P ops Q i K' a w:=by
 unfold wpOp at h
 unfold wpOpIn
 split
 ·rename_i ho;simp only [ho] at h;exact hK _ _ h
 ·rename_i o ho
  simp only [ho] at h
  have hmem:=Array.mem_of_getElem? ho
  have hta:noDefer o = true:=by
   rw [Array.all_eq_true_iff_forall_mem] at ht
   exact ht o hmem
  by_cases hw:Region.wanted o (yielded ops a.tmps) = true
  ·simp only [hw,if_true] at h ⊢
   rcases h with h | ⟨_,h⟩
   rotate_left
   ·exact absurd h (Nm.no Q)
   unfold Oper.wpIn
   refine ⟨fun f _ => trivial,?_⟩
   rw [Oper.semAt_plain _ _ _ (no_defer hta)]
   unfold Oper.wp at h
   generalize (execOp a.eval o).run P w = r at *
   cases r with
   | ok n w' =>
    cases n with
    | value v => exact hK _ _ h
    | skip => exact hK _ _ h
    | «defer» d => exact hK _ _ h
    | enter f args =>
     refine ⟨fun e => by simp [Fence.wide] at e,CallsIn.inRound lp (callsIn_wide.2 (Calls.mono h ?_))⟩
     intro e w2 h2
     cases e with
     | returned v => exact hK _ _ h2
     | panicked ch => exact h2.elim
     | outgrown => exact absurd h2 (Nm.no Q)
    | row r args =>
     refine ⟨fun e => by simp [Fence.wide] at e,fun c cs _ => ?_⟩
     obtain ⟨v,w2,hR,hs⟩:=h c cs
     exact ⟨v,w2,hK _ _ hR,stepsIn_wide.2 hs⟩
    | _ => exact h.elim
   | halt x w' =>
    cases x with
    | panic v => exact h.elim
    | _ => exact h.elim
  ·simp only [hw] at h ⊢
   exact ⟨fun f _ => trivial,hK _ _ h⟩
theorem wpAnyIn_of_any {Q:Exit → Act → World → Prop} (ht:ops.all noDefer = true):∀ (fuel:Nat) (listed:Array Bool) (a:Act) (w:World),wpAny P md ops (Nm Q) fuel listed a w → wpAnyIn (Fence.wide.inRound lp) m P md ops Q fuel listed a w
 | 0,_,_,_,h => h
 | fuel + 1,_,_,_,h => ⟨h.1,fun i hi => wpOpIn_of_op ht (fun a' w' h' => wpAnyIn_of_any ht fuel _ a' w' h') (h.2 i hi)⟩
theorem wpIn_region_mb (C:σ → World → Prop) (s:σ) (n:Nat) {id:Nat} {Q:Exit → Act → World → Prop} {a:Act} {w:World} {L:List Oper} (hm:P.follows .mixedOrders = true) (hB:Region.lexB .any (L.take n).toArray = true) (hch:chainC .any (L.take n).toArray = true)
  (hb:barB2 .any n L.toArray = true) (hd:downB .any L.toArray = true) (hd1:downB .any (L.take n).toArray = true) (ht:L.toArray.all noDefer = true) (hn:n ≤ L.length) (hC:C s { w with drawn:=w.drawn + 1 })
  (h:Nonempty (InW fun w => ∃ s,C s w) → wpLin P (L.take n).toArray C (fun s a' => ∀ w',C s w' → wpList P L.toArray (Nm Q) (L.drop n) a' w') (L.take n) s a):(Code.region id L.toArray true).wpIn (Fence.wide.inRound lp) m P Q a w:=by
 simp only [Region.lexB,Bool.and_eq_true] at hB
 have hlen:(L.take n).length = n:=by simp [Nat.min_eq_left hn]
 have hq:=wpAnyL_lexC (P:=P) (C:=C) (md:=.any) calls_some hch (Q:=fun s a' => ∀ w',C s w' → wpList P L.toArray (Nm Q) (L.drop n) a' w') hB.1 (L.take n) 0 (Array.replicate n false) s a ⟨_,hC⟩ (fun j oj hj hl => by
   rcases Nat.lt_or_ge j n with h' | h'
   ·simp [h'] at hl
   ·simp [h'] at hl) (fun j hj => by omega) (by simp) (by have:=hB.2;simpa [Nat.min_eq_left hn] using this) (h ⟨⟨_,s,hC⟩⟩)
 rw [hlen] at hq
 have:=bar_head3 (P:=P) (md:=.any) (ops:=L.toArray) (ops1:=(L.take n).toArray) (l2:=L.drop n) (n:=n) (C:=C) hb hd hd1 (by simp [Nat.min_eq_left hn]) (fun i hi => by simp [hi]) (fun j => by simp)
  (Q:=Nm Q) (Q1:=fun s a' => ∀ w',C s w' → wpList P L.toArray (Nm Q) (L.drop n) a' w') (fun s a w hw h => h w hw) n (Array.replicate n false) (Array.replicate L.length false) s a { w with drawn:=w.drawn + 1 } hC (fun j oj hj hl e he hbe => by
   rcases Nat.lt_or_ge j L.length with h' | h'
   ·simp [h'] at hl
   ·simp [h'] at hl) (by simp) (by simp)
  (fun i hi => by simp [hi,show i < L.length by omega]) (fun i hi hs => by simp at hs;simp [hs]) hq
 rw [show (L.drop n).length + n = L.length by simp;omega] at this
 refine wpIn_region_any hm (wpAnyIn_of_any ht _ _ _ _ ?_)
 simpa using this
end
end Go.Proofs.YtphamecphmbipaaGreatDoor.Mv

namespace Go.Proofs.YtphamecphmbipaaGreatDoor
open Go.RowKit
set_option linter.unusedVariables false
section
variable {w:World} {s:Int} {la:Option Addr} {n:Nat} {rb rf:Nat → Int} {rm:Nat → Bool} {rv:Nat → Int} {p k m:Nat} {ca:Option Addr} {cc:Nat} {ra:Option Addr} {rc:Nat} {W W':World}
end
end Go.Proofs.YtphamecphmbipaaGreatDoor

namespace Go.Proofs.YtphamecphmbipaaGreatDoor.Tb
open Go.RowKit
set_option linter.unusedVariables false
end Go.Proofs.YtphamecphmbipaaGreatDoor.Tb

namespace Go.Proofs.YtphamecphmbipaaGreatDoor
open Go.RowKit
set_option linter.unusedVariables false
section
variable {w:World} {t:Tr} {ca:Option Addr} {cc:Nat} {ra:Option Addr} {rc:Nat} {la:Option Addr} {cnt lc:Nat} {W W':World}
end
def chF (xb xt xo:Nat → Int) (i:Nat):List Value:=[.int .i64 (xb i),.int .i64 (xt i),.int .u8 (xo i)]
theorem RMine.take {W:World} {base:Nat} {e:TypeId} {m:Nat} {a:Option Addr} {n cap:Nat} {f:Nat → List Value} (h:RMine W base e m (.slice a n cap) n f) (hf:∀ i,(f i).length = m) {k:Nat} (hk:k ≤ n):RMine W base e m (.slice a k cap) k f:=by
 refine ⟨Cs_length hf k,?_⟩
 rcases h.2 with ⟨hv,h0⟩ | ⟨g,cap',cur,hv,hb,hg,hn,hc,hs,ht⟩
 ·injection hv with h1 h2 h3
  have hk0:k = 0:=by omega
  subst h1 h3 hk0
  exact .inl ⟨rfl,rfl⟩
 ·injection hv with h1 h2 h3
  subst h1 h3
  refine .inr ⟨g,cap,cur,rfl,hb,hg,by omega,hc,hs,?_⟩
  have h1:k * m ≤ n * m:=Nat.mul_le_mul_right m hk
  have h2:cur.toList.take (k * m) = (Cs f n).take (k * m):=by rw [← ht,List.take_take,Nat.min_eq_left h1]
  rw [h2]
  have h3:Cs f n = Cs f k ++ Cs (fun i => f (k + i)) (n - k):=by rw [Cs_cat];congr 1;omega
  rw [h3,List.take_left' (Cs_length hf k)]
end Go.Proofs.YtphamecphmbipaaGreatDoor
