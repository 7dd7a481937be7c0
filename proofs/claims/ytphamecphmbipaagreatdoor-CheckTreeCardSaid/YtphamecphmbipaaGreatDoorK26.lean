/- Texts of this claim, merged. -/
import Derived.Test.YtphamecphmbipaaGreatDoorK17
namespace Go.Proofs.YtphamecphmbipaaGreatDoor.Tb
open Go.RowKit
set_option linter.unusedVariables false
def inSt (sk:List (Nat × Nat × Nat)) (n:Nat):Bool:=sk.any fun x => x.2.2 == n
def inAl (sk:List (Nat × Nat × Nat)) (n:Nat):Bool:=sk.any fun x => x.1 == n
def readsT (o:Oper) (s:Nat):Bool:=o.op.operands.toList.any fun x => match x with | .tmp t => t == s | _ => false
section
variable {P:Program}
theorem eval_same {a b:Act} {x:Operand} (h:∀ s,x = .tmp s → a.tmps.getD s undef = b.tmps.getD s undef):a.eval x = b.eval x:=by
 cases x with
 | tmp t => exact h t rfl
 | const v => rfl
 | global g => rfl
 | func f => rfl
theorem reads_mem {o:Oper} {x:Operand} {s:Nat} (hx:x ∈ o.op.operands) (he:x = .tmp s):readsT o s = true:=by
 unfold readsT
 rw [List.any_eq_true]
 exact ⟨x,by simpa using hx,by rw [he];simp⟩
theorem walk_get {ops:Array Oper} {C:World → Prop} {A:Act}:∀ (l:List Oper) (a:Act),(∀ o ∈ l,o.guard = none ∧ (∀ cs b,o.op ≠ .select cs b) ∧ ∃ d,o.dst = some d ∧ d < a.tmps.size) → l.Pairwise (fun x y => x.dst ≠ y.dst ∧ (∀ d,y.dst = some d → readsT x d = false)) → (∀ o ∈ l,∀ d,o.dst = some d → readsT o d = false) →
  wpQuiet P ops C (fun a' => a' = A) l a → A.defers = a.defers ∧ A.tmps.size = a.tmps.size ∧ (∀ s,(∀ o ∈ l,o.dst ≠ some s) → A.tmps.getD s undef = a.tmps.getD s undef) ∧ ∀ o ∈ l,∀ d,o.dst = some d → ∀ w,C w → o.quietAt P A C w (A.tmps.getD d undef)
 | [],a,_,_,_,h => by
  have h:a = A:=h
  subst h
  exact ⟨rfl,rfl,fun _ _ => rfl,fun o ho => by cases ho⟩
 | o :: l,a,hg,hp,hr,h => by
  obtain ⟨hgo,hso,d,hd,hlt⟩:=hg o (by simp)
  obtain ⟨hp1,hp2⟩:=List.pairwise_cons.1 hp
  unfold wpQuiet at h
  rw [if_pos (by unfold Region.wanted;rw [hgo])] at h
  obtain ⟨v,hv,hk⟩:=h
  rw [hd] at hk
  obtain ⟨i1,i2,i3,i4⟩:=walk_get l (a.put (some d) v) (fun o' ho' => by
   obtain ⟨h1,h2,d',h3,h4⟩:=hg o' (by simp [ho'])
   exact ⟨h1,h2,d',h3,by rw [put_size];exact h4⟩) hp2 (fun o' ho' => hr o' (by simp [ho'])) hk
  have hAd:A.tmps.getD d undef = v:=by
   rw [i3 d (fun o' ho' e => (hp1 o' ho').1 (hd.trans e.symm))]
   exact put_same _ _ _ hlt
  have hoth:∀ s,(∀ o' ∈ o :: l,o'.dst ≠ some s) → A.tmps.getD s undef = a.tmps.getD s undef:=fun s hs => by
   rw [i3 s (fun o' ho' => hs o' (by simp [ho']))]
   exact put_other _ _ _ _ (fun e => hs o (by simp) (by rw [hd,e]))
  refine ⟨i1,i2.trans (put_size _ _ _),hoth,?_⟩
  intro o' ho' d' hd' w hw
  rcases List.mem_cons.1 ho' with rfl | ho'
  ·have e:d = d':=by rw [hd] at hd';injection hd'
   subst e
   rw [hAd]
   have:=hv w hw
   unfold Oper.quietAt at this ⊢
   rw [execOp_congr (ρ:=A.eval) (ρ':=a.eval) o' hso fun x hx => eval_same fun s hs => ?_]
   ·exact this
   ·refine hoth s fun o2 ho2 e => ?_
    have h1:=reads_mem hx hs
    rcases List.mem_cons.1 ho2 with rfl | ho2
    ·rw [hr o2 (by simp) s e] at h1;cases h1
    ·rw [(hp1 o2 ho2).2 s e] at h1;cases h1
  ·exact i4 o' ho' d' hd' w hw
structure Ok (md:Region.Mode) (L:List Oper) (sk:List (Nat × Nat × Nat)) (i:Nat) (o:Oper):Prop where
 g:o.guard = none
 s:∀ cs b,o.op ≠ .select cs b
 r:∀ j oj d,L[j]? = some oj → oj.dst = some d → readsT o d = true → ∃ e ∈ o.after,Region.binds md e = true ∧ e.on = j
 d:∀ j oj d,L[j]? = some oj → oj.dst = some d → j ≠ i → o.dst ≠ some d
 a:∀ j oj d,L[j]? = some oj → oj.dst = some d → inAl sk j = true → inSt sk i = false → readsT o d = false
 st:inSt sk i = true → o.dst = none ∧ inAl sk i = false ∧ ∀ x ∈ sk,x.2.2 = i → ∃ e ∈ o.after,Region.binds md e = true ∧ e.on = x.1
 ns:inSt sk i = false → (∃ d,o.dst = some d) ∧ ∀ x ∈ sk,(x.1 = i → o.dst = some x.2.1) ∧ (x.1 ≠ i → o.dst ≠ some x.2.1)
theorem steps_of {md:Region.Mode} {ops:Array Oper} {Q:Exit → Act → World → Prop} {I:(Nat → Bool) → Act → World → Prop}:∀ (l:List Oper) (n:Nat),(∀ i o,l[i]? = some o → ∀ l' a w,l' (n + i) = false → upB md o l' = true → I l' a w → wpOp P ops Q (n + i) (I (fun j => j == (n + i) || l' j)) a w) → StepsI P md ops Q I n l
 | [],_,_ => trivial
 | o :: l,n,h => ⟨fun l' a w h1 h2 h3 => h 0 o rfl l' a w h1 h2 h3,steps_of l (n + 1) fun i o' hi l' a w h1 h2 h3 => by
   have:=h (i + 1) o' (by simpa using hi) l' a w (by rw [show n + (i + 1) = n + 1 + i by omega];exact h1) h2 h3
   rwa [show n + (i + 1) = n + 1 + i by omega] at this⟩
theorem up_of {md:Region.Mode} {o:Oper} {l:Nat → Bool} (h:upB md o l = true) {e:Edge} (he:e ∈ o.after) (hb:Region.binds md e = true):l e.on = true:=by
 unfold upB at h
 rw [Array.all_eq_true'] at h
 have:=h e he
 rwa [hb,Bool.not_true,Bool.false_or] at this
end
end Go.Proofs.YtphamecphmbipaaGreatDoor.Tb

namespace Go.Proofs.YtphamecphmbipaaGreatDoor.Vp
open Go.RowKit Go.Proofs.YtphamecphmbipaaGreatDoor
set_option linter.unusedVariables false
def preOp (md:Region.Mode) (L:List Oper) (n:Nat) (o:Oper):Bool :=
 (match o.guard with | none => true | some _ => false) && (match o.op with | .select _ _ => false | _ => true) && (match o.dst with | none => false | some _ => true) &&
 (List.range L.length).all fun j => match Vl.dst L j with
  | none => true
  | some d => !Tb.readsT o d || (decide (j < n) && o.after.any fun e => Region.binds md e && e.on == j)
def preB (md:Region.Mode) (L:List Oper) (n:Nat):Bool:=decide (n ≤ L.length) && (L.take n).all (preOp md L n)
section
variable {P:Program} {L:List Oper} {V:(Nat → Bool) → Nat → Value → World → Prop} {S:(Nat → Bool) → World → Prop} {a:Act}
theorem dst_some {i d:Nat} (h:Vl.dst L i = some d):∃ o,L[i]? = some o ∧ o.dst = some d:=by
 unfold Vl.dst at h
 cases hl:L[i]? with
 | none => rw [hl] at h;cases h
 | some o => rw [hl] at h;exact ⟨o,rfl,h⟩
theorem dst_of {i d:Nat} {o:Oper} (h:L[i]? = some o) (hd:o.dst = some d):Vl.dst L i = some d:=by
 unfold Vl.dst;rw [h];exact hd
structure POk (md:Region.Mode) (L:List Oper) (n:Nat) (o:Oper):Prop where
 g:o.guard = none
 s:∀ cs b,o.op ≠ .select cs b
 d:∃ d,o.dst = some d
 r:∀ j d,Vl.dst L j = some d → Tb.readsT o d = true → j < n ∧ ∃ e ∈ o.after,Region.binds md e = true ∧ e.on = j
theorem pok {md:Region.Mode} {n:Nat} (h:preB md L n = true) {i:Nat} {o:Oper} (hi:L[i]? = some o) (hn:i < n):POk md L n o:=by
 unfold preB at h
 rw [Bool.and_eq_true,List.all_eq_true] at h
 have hm:o ∈ L.take n:=List.mem_of_getElem? (i:=i) (by rw [List.getElem?_take,if_pos hn];exact hi)
 have h1:=h.2 o hm
 unfold preOp at h1
 simp only [Bool.and_eq_true] at h1
 obtain ⟨⟨⟨hg,hs⟩,hd⟩,hr⟩:=h1
 have k1:o.guard = none:=by cases hgg:o.guard with | none => rfl | some x => rw [hgg] at hg;cases hg
 have k3:∃ d,o.dst = some d:=by
  cases hdd:o.dst with
  | none => rw [hdd] at hd;cases hd
  | some x => exact ⟨x,rfl⟩
 refine ⟨k1,fun cs b e => (by rw [e] at hs;cases hs),k3,fun j d hj hrd => ?_⟩
 obtain ⟨oj,hoj,_⟩:=dst_some hj
 have h2:=(List.all_eq_true.1 hr) j (List.mem_range.2 (List.getElem?_eq_some_iff.1 hoj).1)
 rw [hj] at h2
 simp only [hrd,Bool.not_true,Bool.false_or,Bool.and_eq_true,decide_eq_true_eq,Array.any_eq_true'] at h2
 obtain ⟨h3,e,he,hbe⟩:=h2
 simp only [beq_iff_eq] at hbe
 exact ⟨h3,e,he,hbe.1,hbe.2⟩
def W (L:List Oper) (n:Nat) (A:Act) (V:(Nat → Bool) → Nat → Value → World → Prop) (l:Nat → Bool) (i:Nat) (v:Value) (w:World):Prop :=
 if i < n then v = A.tmps.getD ((Vl.dst L i).getD 0) undef else V l i v w
theorem W.pre {n:Nat} {A:Act} {l:Nat → Bool} {i:Nat} {v:Value} {w:World} (h:W L n A V l i v w) (hi:i < n) {d:Nat} (hd:Vl.dst L i = some d):v = A.tmps.getD d undef:=by
 unfold W at h
 rw [if_pos hi,hd] at h
 exact h
theorem W.post {n:Nat} {A:Act} {l:Nat → Bool} {i:Nat} {v:Value} {w:World} (h:W L n A V l i v w) (hi:¬ i < n):V l i v w:=by
 unfold W at h
 rwa [if_neg hi] at h
theorem W.up {n:Nat} {A:Act} {l l':Nat → Bool} {i:Nat} {v:Value} {w w':World} (h:W L n A V l i v w) (hv:¬ i < n → V l i v w → V l' i v w'):W L n A V l' i v w':=by
 unfold W at h ⊢
 split
 ·rwa [if_pos (by assumption)] at h
 ·rw [if_neg (by assumption)] at h
  exact hv (by assumption) h
theorem W.mk {n:Nat} {A:Act} {l:Nat → Bool} {i:Nat} {v:Value} {w:World} (hi:¬ i < n) (h:V l i v w):W L n A V l i v w:=by
 unfold W
 rwa [if_neg hi]
theorem all {n:Nat} {A:Act} {a':Act} {w':World} (h:Vm.I L (W L n A V) S a (fun _ => true) a' w') (hA:A.defers = a.defers) (hz:A.tmps.size = a.tmps.size) (ho:∀ s,(∀ i,Vl.dst L i ≠ some s) → A.tmps.getD s undef = a.tmps.getD s undef) (ds:List Nat) (hds:∀ i d,¬ i < n → Vl.dst L i = some d → d ∈ ds) :
  a' = ds.foldl (fun x d => x.put (some d) (a'.tmps.getD d undef)) A:=by
 obtain ⟨h1,h2,h3⟩:=Vl.foldl_put a' ds A
 generalize (ds.foldl (fun x d => x.put (some d) (a'.tmps.getD d undef)) A) = y at h1 h2 h3
 have hs:a'.tmps = y.tmps:=by
  refine Array.ext (h.size.trans (hz.symm.trans h2.symm)) fun k hk1 hk2 => ?_
  have e:a'.tmps.getD k undef = y.tmps.getD k undef:=by
   rw [h3 k (by rw [hz,← h.size];exact hk1)]
   by_cases hm:k ∈ ds
   ·rw [if_pos hm]
   ·rw [if_neg hm]
    by_cases hw:∃ i,Vl.dst L i = some k
    ·obtain ⟨i,hi⟩:=hw
     have hin:i < n:=Classical.byContradiction fun e => hm (hds i k e hi)
     exact (h.vals i k rfl hi).pre hin hi
    ·have hw:∀ i,Vl.dst L i ≠ some k:=fun i e => hw ⟨i,e⟩
     rw [ho k hw]
     exact h.other k fun i _ => hw i
  rw [Array.getD_eq_getD_getElem?,Array.getD_eq_getD_getElem?,Array.getElem?_eq_getElem hk1,Array.getElem?_eq_getElem hk2] at e
  exact e
 have hdf:a'.defers = y.defers:=h.defers.trans (hA.symm.trans h1.symm)
 cases a'
 cases y
 simp only at hs hdf
 rw [hs,hdf]
theorem wp_region_pre (n:Nat) (V:(Nat → Bool) → Nat → Value → World → Prop) (S:(Nat → Bool) → World → Prop) (C:World → Prop) (A:Act) {id:Nat} {Q:Exit → Act → World → Prop} {w:World} (hm:P.follows .mixedOrders = true) (hd:downB .any L.toArray = true) (hpre:preB .any L n = true) (hB:Vl.dstB L a.tmps.size = true)
  (hVl:∀ l l',(∀ i,n ≤ i → i < L.length → l i = l' i) → ∀ i v w,V l i v w → V l' i v w) (hS:∀ l l' w,(∀ i,n ≤ i → i < L.length → l i = l' i) → S l w → S l' w) (hSC:∀ l w,S l w → C w)
  (hVb:∀ l i v W W',V l i v W → Below W.heap.size W W' → V l i v W') (hSb:∀ l W W',S l W → Below W.heap.size W W' → C W' → S l W') (h0:S (fun _ => false) { w with drawn:=w.drawn + 1 })
  (hwalk:∀ R:World → Prop,(∀ W W',R W → Below W.heap.size W W' → R W') → Nonempty (InW (fun W => C W ∧ R W)) → wpQuiet P (L.take n).toArray (fun w' => ∃ s:InW (fun W => C W ∧ R W),w' = s.W) (fun a' => a' = A) (L.take n) a)
  (hst:StepsI P .any L.toArray Q (Vm.I L (W L n A V) S a) n (L.drop n))
  (hend:∀ a' w',Vm.I L (W L n A V) S a (fun _ => true) a' w' → (∀ ds:List Nat,(List.range L.length).all (fun i => decide (i < n) || match Vl.dst L i with | none => true | some d => ds.contains d) = true → a' = ds.foldl (fun x d => x.put (some d) (a'.tmps.getD d undef)) A) → Q .normal a' w'):(Code.region id L.toArray true).wp P Q a w:=by
 have hn:n ≤ L.length:=by unfold preB at hpre;rw [Bool.and_eq_true,decide_eq_true_eq] at hpre;exact hpre.1
 have htk:∀ {o},o ∈ L.take n → ∃ i,i < n ∧ L[i]? = some o:=fun {o} ho => by
  obtain ⟨i,hi⟩:=List.getElem?_of_mem ho
  rw [List.getElem?_take] at hi
  split at hi
  ·exact ⟨i,by assumption,hi⟩
  ·cases hi
 have hlt:∀ {i d},Vl.dst L i = some d → i < L.length:=fun {i d} e => by
  obtain ⟨o,ho,_⟩:=dst_some e
  exact (List.getElem?_eq_some_iff.1 ho).1
 have getW:∀ R:World → Prop,(∀ W W',R W → Below W.heap.size W W' → R W') → (∃ W,C W ∧ R W) → A.defers = a.defers ∧ A.tmps.size = a.tmps.size ∧ (∀ s,(∀ o ∈ L.take n,o.dst ≠ some s) → A.tmps.getD s undef = a.tmps.getD s undef) ∧
   ∀ (o:Oper),o ∈ L.take n → ∀ d,o.dst = some d → ∀ w,(∃ s:InW (fun W => C W ∧ R W),w = s.W) → o.quietAt P A (fun w' => ∃ s:InW (fun W => C W ∧ R W),w' = s.W) w (A.tmps.getD d undef):=fun R hR ⟨W,hW⟩ => by
  refine Tb.walk_get (C:=fun w' => ∃ s:InW (fun W => C W ∧ R W),w' = s.W) (L.take n) a (fun o ho => ?_) ?_ (fun o ho d hdo => ?_) (hwalk R hR ⟨⟨W,hW⟩⟩)
  ·obtain ⟨i,hin,hi⟩:=htk ho
   have k:=pok hpre hi hin
   obtain ⟨d,hdd⟩:=k.d
   exact ⟨k.g,k.s,d,hdd,Vl.dstB_lt hB (dst_of hi hdd)⟩
  ·refine List.pairwise_iff_getElem.2 fun i j hi hj hij => ?_
   have hin:i < n:=by rw [List.length_take] at hi;omega
   have hjn:j < n:=by rw [List.length_take] at hj;omega
   have ei:L[i]? = some (L.take n)[i]:=by rw [List.getElem_take];exact List.getElem?_eq_getElem _
   have ej:L[j]? = some (L.take n)[j]:=by rw [List.getElem_take];exact List.getElem?_eq_getElem _
   refine ⟨fun e => ?_,fun d hdy => ?_⟩
   ·obtain ⟨d,hdd⟩:=(pok hpre ei hin).d
    exact Vl.dstB_ne hB (dst_of ei hdd) (m:=j) (by omega) (dst_of ej (by rw [← e,hdd]))
   ·cases hr:Tb.readsT (L.take n)[i] d with
    | false => rfl
    | true =>
     obtain ⟨_,e,he,hb,hon⟩:=(pok hpre ei hin).r j d (dst_of ej hdy) hr
     have:=downB_spec hd (i:=i) (o:=_) (by rw [List.getElem?_toArray];exact ei) he hb
     omega
  ·obtain ⟨i,hin,hi⟩:=htk ho
   cases hr:Tb.readsT o d with
   | false => rfl
   | true =>
    obtain ⟨_,e,he,hb,hon⟩:=(pok hpre hi hin).r i d (dst_of hi hdo) hr
    have:=downB_spec hd (i:=i) (by simpa using hi) he hb
    omega
 refine Vm.wp_region_val (W L n A V) S hm hd (fun l l' he i v w h => ?_) (fun l l' w he => hS l l' w fun i _ hi => he i hi) h0 (fun _ => ?_) hB (fun a' w' h => hend a' w' h fun ds hds => ?_)
 ·unfold W at h ⊢
  split
  ·rwa [if_pos (by assumption)] at h
  ·rw [if_neg (by assumption)] at h
   exact hVl l l' (fun i _ hi => he i hi) i v w h
 rotate_left
 ·obtain ⟨W,hW⟩:∃ W,C W ∧ True:=⟨_,hSC _ _ h0,trivial⟩
  obtain ⟨g1,g2,g3,_⟩:=getW (fun _ => True) (fun _ _ _ _ => trivial) ⟨W,hW⟩
  refine all h g1 g2 (fun s hs => g3 s fun o ho e => ?_) ds fun i d hin hd => ?_
  ·obtain ⟨i,_,hi⟩:=htk ho
   exact hs i (dst_of hi e)
  ·have:=(List.all_eq_true.1 hds) i (List.mem_range.2 (hlt hd))
   rw [hd] at this
   simpa [hin] using this
 have key:∀ i o,i < n → L[i]? = some o → ∀ l a' w',l i = false → upB .any o l = true → Vm.I L (W L n A V) S a l a' w' → wpOp P L.toArray Q i (Vm.I L (W L n A V) S a (fun j => j == i || l j)) a' w':=by
  intro i o hin hi l a' w' hl hu h
  have k:=pok hpre hi hin
  obtain ⟨d,hdd⟩:=k.d
  have hmem:o ∈ L.take n:=List.mem_of_getElem? (i:=i) (by rw [List.getElem?_take,if_pos hin];exact hi)
  obtain ⟨_,_,hoth,hq⟩:=getW (fun W => Below w'.heap.size w' W) (fun W W' h1 h2 => h1.trans (h2.mono h1.size)) ⟨w',hSC l w' h.st,Below.refl _ _⟩
  have hqo:=hq o hmem d hdd
  have hev:execOp a'.eval o = execOp A.eval o:=execOp_congr o k.s fun y hy => Tb.eval_same fun s hs => by
   have hrd:=Tb.reads_mem hy hs
   by_cases hw:∃ j,Vl.dst L j = some s
   ·obtain ⟨j,hj⟩:=hw
    obtain ⟨hjn,e,he,hb,hon⟩:=k.r j s hj hrd
    have hlj:l j = true:=by rw [← hon];exact Tb.up_of hu he hb
    exact (h.vals j s hlj hj).pre hjn hj
   ·have hw:∀ j,Vl.dst L j ≠ some s:=fun j e => hw ⟨j,e⟩
    rw [hoth s fun o2 ho2 e => by
     obtain ⟨j,_,hj⟩:=htk ho2
     exact hw j (dst_of hj e)]
    exact h.other s fun j _ => hw j
  have hi':L.toArray[i]? = some o:=by simpa using hi
  have hVl':∀ (l':Nat → Bool),(∀ j,n ≤ j → j < L.length → l j = l' j) → ∀ j v W',V l j v W' → V l' j v W':=fun l' he j v W' => hVl l l' he j v W'
  have hup:∀ j,n ≤ j → j < L.length → l j = (fun j => j == i || l j) j:=fun j hj _ => by
   show l j = (j == i || l j)
   rw [show (j == i) = false by simp;omega,Bool.false_or]
  refine Tb.wpOp_of hi' k.g (Oper.wp_of_quiet (C:=fun w1 => ∃ s:InW (fun W => C W ∧ Below w'.heap.size w' W),w1 = s.W) (K:=fun b => b = a'.put (some d) (A.tmps.getD d undef)) ⟨⟨w',hSC l w' h.st,Below.refl _ _⟩,rfl⟩ (fun b W' hWW hb => ?_) ⟨A.tmps.getD d undef,fun W' hWW => ?_,by rw [hdd]⟩)
  ·obtain ⟨s0,rfl⟩:=hWW
   have hW:=s0.h
   subst hb
   rw [← hdd]
   refine h.next (sz:=0) hB i hi (A.tmps.getD d undef) hl (fun j dj hlj hdj hv => ?_) ?_ (hS l _ _ hup (hSb l _ _ h.st hW.2 hW.1))
   ·unfold W at hv ⊢
    split
    ·rwa [if_pos (by assumption)] at hv
    ·rw [if_neg (by assumption)] at hv
     exact hVl' _ hup _ _ _ (hVb _ _ _ _ _ hv hW.2)
   ·unfold W
    rw [if_pos hin,dst_of hi hdd];rfl
  ·obtain ⟨s0,rfl⟩:=hWW
   have:=hqo s0.W ⟨s0,rfl⟩
   unfold Oper.quietAt at this ⊢
   rw [hev];exact this
 refine Tb.steps_of L 0 fun i o hi l a' w' hl hu h => ?_
 rw [Nat.zero_add] at hl ⊢
 by_cases hin:i < n
 ·exact key i o hin hi l a' w' hl hu h
 ·have:=StepsI.get (L.drop n) n (i - n) o hst (by rw [List.getElem?_drop,show n + (i - n) = i by omega];exact hi) l a' w' (by rw [show n + (i - n) = i by omega];exact hl) hu h
  rwa [show n + (i - n) = i by omega] at this
end
end Go.Proofs.YtphamecphmbipaaGreatDoor.Vp

namespace Go.Proofs.YtphamecphmbipaaGreatDoor
open Go.RowKit
set_option linter.unusedVariables false
section
variable {w:World} {s:Int} {la:Option Addr} {n:Nat} {rb rf:Nat → Int} {rm:Nat → Bool} {rv:Nat → Int} {p k m:Nat} {ca:Option Addr} {cc:Nat} {ra:Option Addr} {rc:Nat} {W W':World}
end
end Go.Proofs.YtphamecphmbipaaGreatDoor

namespace Go.Proofs.YtphamecphmbipaaGreatDoor.Tb
open Go.RowKit
set_option linter.unusedVariables false
end Go.Proofs.YtphamecphmbipaaGreatDoor.Tb

namespace Go.Proofs.YtphamecphmbipaaGreatDoor
open Go.RowKit
set_option linter.unusedVariables false
section
variable {w:World} {t:Tr} {ca:Option Addr} {cc:Nat} {ra:Option Addr} {rc:Nat} {la:Option Addr} {cnt lc:Nat} {W W':World}
end
def chF (xb xt xo:Nat → Int) (i:Nat):List Value:=[.int .i64 (xb i),.int .i64 (xt i),.int .u8 (xo i)]
theorem RMine.take {W:World} {base:Nat} {e:TypeId} {m:Nat} {a:Option Addr} {n cap:Nat} {f:Nat → List Value} (h:RMine W base e m (.slice a n cap) n f) (hf:∀ i,(f i).length = m) {k:Nat} (hk:k ≤ n):RMine W base e m (.slice a k cap) k f:=by
 refine ⟨Cs_length hf k,?_⟩
 rcases h.2 with ⟨hv,h0⟩ | ⟨g,cap',cur,hv,hb,hg,hn,hc,hs,ht⟩
 ·injection hv with h1 h2 h3
  have hk0:k = 0:=by omega
  subst h1 h3 hk0
  exact .inl ⟨rfl,rfl⟩
 ·injection hv with h1 h2 h3
  subst h1 h3
  refine .inr ⟨g,cap,cur,rfl,hb,hg,by omega,hc,hs,?_⟩
  have h1:k * m ≤ n * m:=Nat.mul_le_mul_right m hk
  have h2:cur.toList.take (k * m) = (Cs f n).take (k * m):=by rw [← ht,List.take_take,Nat.min_eq_left h1]
  rw [h2]
  have h3:Cs f n = Cs f k ++ Cs (fun i => f (k + i)) (n - k):=by rw [Cs_cat];congr 1;omega
  rw [h3,List.take_left' (Cs_length hf k)]
end Go.Proofs.YtphamecphmbipaaGreatDoor

namespace Go.Proofs.YtphamecphmbipaaGreatDoor
open Go.RowKit Go.ChangeShapes Go.WideShapes Go.ChangeAt Go.Deep
set_option linter.unusedVariables false
theorem ints_in {H:Type} {enc:TypeId × Value → H} {W:World} {a:Option Addr} {len cap:Nat} {d:DataW H} {p:List MemPlace} (h:DataW.Trod enc Tryz.prog W 0 (fun _ => true) true 37 (.slice a len cap) d p) :
  ∃ m:Nat → Int,RRow W a 1 len (inF m) ∧ (∀ i,-9223372036854775808 ≤ m i ∧ m i ≤ 9223372036854775807) ∧ (len:Int) ≤ 9223372036854775807 ∧ (a = none → len = 0 ∧ cap = 0):=by
 obtain ⟨fuel,hf⟩:=h
 rcases open_ints Tryz.underlying37 Tryz.underlying3 (by kernel_rfl) hf with ⟨hcs,_⟩ | ⟨x,l,c,zs,hcs,_,hl,hm,hz,_,hcell,hwz⟩
 ·simp [Value.cells] at hcs
  obtain ⟨rfl,rfl,rfl⟩:=hcs
  exact ⟨fun _ => 0,.inl rfl,fun _ => ⟨(by decide:(-9223372036854775808:Int) ≤ 0),(by decide:(0:Int) ≤ 9223372036854775807)⟩,by omega,fun _ => ⟨rfl,rfl⟩⟩
 ·simp [Value.cells] at hcs
  obtain ⟨rfl,rfl,rfl⟩:=hcs
  have hmax:maxLen = 9223372036854775807:=rfl
  have hzl:len ≤ zs.length:=by rw [hz];split <;> omega
  refine ⟨fun i => zs.getD i 0,?_,?_,by omega,fun h => by cases h⟩
  ·by_cases h0:len = 0
   ·exact .inl h0
   ·obtain ⟨b,off,spot⟩:=x
    have hc:=hcell 0 (by omega)
    have hspot:spot = none:=by simpa [Addr.add] using World.cell?_spot hc
    subst hspot
    refine .inr ⟨b,off,rfl,fun i hi j v hv => ?_⟩
    have hc:=hcell i (by omega)
    rw [addr_add] at hc
    cases j with
    | zero => rw [Nat.mul_one,Nat.add_zero,hc];exact hv
    | succ j => cases hv
  ·intro i
   show _ ≤ zs.getD i 0 ∧ zs.getD i 0 ≤ _
   by_cases hi:i < zs.length
   ·exact bounds_i64 (hwz (zs.getD i 0) (by rw [List.getD_eq_getElem?_getD,List.getElem?_eq_getElem hi];exact List.getElem_mem _))
   ·have:zs.getD i 0 = 0:=by rw [List.getD_eq_getElem?_getD,List.getElem?_eq_none (by omega)];rfl
    rw [this];decide
set_option maxRecDepth 100000 in
theorem chs_in {H:Type} {enc:TypeId × Value → H} {W:World} {a:Option Addr} {len cap:Nat} {d:DataW H} {p:List MemPlace} (h:DataW.Trod enc Tryz.prog W 0 (fun _ => true) true 25 (.slice a len cap) d p) :
  ∃ (xb xt xo:Nat → Int),RRow W a 3 len (chF xb xt xo) ∧ (∀ i,-9223372036854775808 ≤ xb i ∧ xb i ≤ 9223372036854775807) ∧ (∀ i,-9223372036854775808 ≤ xt i ∧ xt i ≤ 9223372036854775807) ∧ (∀ i,0 ≤ xo i ∧ xo i < 256) ∧ (len:Int) ≤ 9223372036854775807 ∧ (∀ b off,a = some ⟨b,off,none⟩ → 0 < len → b < W.heap.size):=by
 obtain ⟨fuel,hf⟩:=h
 rcases open_slice Tryz.underlying25 hf with ⟨hcs,_⟩ | ⟨x,l,c,m,nn,DD,Pl,hcs,_,hl,hm,hmm,_,hall⟩
 ·simp [Value.cells] at hcs
  obtain ⟨rfl,rfl,rfl⟩:=hcs
  exact ⟨fun _ => 0,fun _ => 0,fun _ => 0,.inl rfl,fun _ => ⟨(by decide:(-9223372036854775808:Int) ≤ 0),(by decide:(0:Int) ≤ 9223372036854775807)⟩,fun _ => ⟨(by decide:(-9223372036854775808:Int) ≤ 0),(by decide:(0:Int) ≤ 9223372036854775807)⟩,fun _ => ⟨Int.le_refl 0,(by decide:(0:Int) < 256)⟩,by omega,fun b off e => by cases e⟩
 ·simp [Value.cells] at hcs
  obtain ⟨rfl,rfl,rfl⟩:=hcs
  have hmax:maxLen = 9223372036854775807:=rfl
  have hlm:len ≤ m:=by rw [hmm];split <;> omega
  have hce:Tryz.prog.cellsOf 149 = 3:=by kernel_rfl
  rw [hce] at hall
  have key:∀ i,i < len → ∃ (b e g:Int),W.cell? (x.add (i * 3)) = some (.int .i64 b) ∧ W.cell? (x.add (i * 3 + 1)) = some (.int .i64 e) ∧ W.cell? (x.add (i * 3 + 2)) = some (.int .u8 g) ∧ (-9223372036854775808 ≤ b ∧ b ≤ 9223372036854775807) ∧ (-9223372036854775808 ≤ e ∧ e ≤ 9223372036854775807) ∧ 0 ≤ g ∧ g < 256:=by
   intro i hi
   obtain ⟨cs',h1,h2⟩:=hall i (by omega)
   obtain ⟨_,hlen,hcell⟩:=World.cells?_some h1
   obtain ⟨xs,k,_,_,_,hxl,hfl⟩:=DataW.trod_struct Tryz.underlying149 h2
   match xs,hxl,cs',hlen with
   | [y0,y1,y2],_,[v0,v1,v2],_ =>
    have g0:=hfl 0 _ rfl
    have g1:=hfl 1 _ rfl
    have g2:=hfl 2 _ rfl
    have hci:Tryz.prog.cellsOf 3 = 1:=by kernel_rfl
    have hcu:Tryz.prog.cellsOf 5 = 1:=by kernel_rfl
    simp [hci,hcu] at g0 g1 g2
    obtain ⟨b,e0,_,wb⟩:=DataW.trod_int Tryz.underlying3 g0
    obtain ⟨e,e1,_,we⟩:=DataW.trod_int Tryz.underlying3 g1
    obtain ⟨g,e2,_,wg⟩:=DataW.trod_int Tryz.underlying5 g2
    simp at e0 e1 e2
    have bb:=bounds_i64 wb
    have be:=bounds_i64 we
    have bg:=bounds_u8 wg
    have c0:=hcell 0 (by omega)
    have c1:=hcell 1 (by omega)
    have c2:=hcell 2 (by omega)
    rw [add_add] at c0 c1 c2
    exact ⟨b,e,g,by simpa [e0] using c0,by simpa [e1] using c1,by simpa [e2] using c2,bb,be,by omega,by omega⟩
  refine ⟨fun i => if hi:i < len then (key i hi).choose else 0,fun i => if hi:i < len then (key i hi).choose_spec.choose else 0,fun i => if hi:i < len then (key i hi).choose_spec.choose_spec.choose else 0,?_,?_,?_,?_,by omega,?_⟩
  ·by_cases h0:len = 0
   ·exact .inl h0
   ·obtain ⟨b,off,spot⟩:=x
    have hc:=(key 0 (by omega)).choose_spec.choose_spec.choose_spec.1
    have hspot:spot = none:=by simpa [Addr.add] using World.cell?_spot hc
    subst hspot
    refine .inr ⟨b,off,rfl,fun i hi j v hv => ?_⟩
    have hk:=(key i hi).choose_spec.choose_spec.choose_spec
    have hj3:j < 3:=(List.getElem?_eq_some_iff.1 hv).1
    unfold chF at hv
    simp only [hi,dif_pos] at hv
    rw [Nat.add_assoc,← addr_add]
    obtain rfl | rfl | rfl:j = 0 ∨ j = 1 ∨ j = 2:=by omega
    ·rw [← hv];exact hk.1
    ·rw [← hv];exact hk.2.1
    ·rw [← hv];exact hk.2.2.1
  ·intro i
   by_cases hi:i < len
   ·simp only [hi,dif_pos];exact (key i hi).choose_spec.choose_spec.choose_spec.2.2.2.1
   ·simp only [hi,dif_neg,not_false_eq_true];decide
  ·intro i
   by_cases hi:i < len
   ·simp only [hi,dif_pos];exact (key i hi).choose_spec.choose_spec.choose_spec.2.2.2.2.1
   ·simp only [hi,dif_neg,not_false_eq_true];decide
  ·intro i
   by_cases hi:i < len
   ·simp only [hi,dif_pos];exact (key i hi).choose_spec.choose_spec.choose_spec.2.2.2.2.2
   ·simp only [hi,dif_neg,not_false_eq_true];decide
  ·intro b off e h0
   injection e with e
   subst e
   have hc:=(key 0 h0).choose_spec.choose_spec.choose_spec.1
   exact World.block_lt_of_cell? W _ hc
end Go.Proofs.YtphamecphmbipaaGreatDoor
