/- Texts of this claim, merged by a program (a claim may have 60 files): Pre, CkJ. -/
import Derived.Test.YtphamecphmbipaaGreatDoorK17
import Derived.Test.YtphamecphmbipaaGreatDoorK26
import Derived.Test.YtphamecphmbipaaGreatDoorK29
namespace Go.Proofs.YtphamecphmbipaaGreatDoor.Vp
open Go.RowKit Go.Proofs.YtphamecphmbipaaGreatDoor
set_option linter.unusedVariables false
def preOp (md:Region.Mode) (L:List Oper) (n:Nat) (o:Oper):Bool :=
 (match o.guard with | none => true | some _ => false) && (match o.op with | .select _ _ => false | _ => true) && (match o.dst with | none => false | some _ => true) &&
 (List.range L.length).all fun j => match Vl.dst L j with
  | none => true
  | some d => !Tb.readsT o d || (decide (j < n) && o.after.any fun e => Region.binds md e && e.on == j)
def preB (md:Region.Mode) (L:List Oper) (n:Nat):Bool:=decide (n ≤ L.length) && (L.take n).all (preOp md L n)
section
variable {P:Program} {L:List Oper} {V:(Nat → Bool) → Nat → Value → World → Prop} {S:(Nat → Bool) → World → Prop} {a:Act}
theorem dst_some {i d:Nat} (h:Vl.dst L i = some d):∃ o,L[i]? = some o ∧ o.dst = some d:=by
 unfold Vl.dst at h
 cases hl:L[i]? with
 | none => rw [hl] at h;cases h
 | some o => rw [hl] at h;exact ⟨o,rfl,h⟩
theorem dst_of {i d:Nat} {o:Oper} (h:L[i]? = some o) (hd:o.dst = some d):Vl.dst L i = some d:=by
 unfold Vl.dst;rw [h];exact hd
structure POk (md:Region.Mode) (L:List Oper) (n:Nat) (o:Oper):Prop where
 g:o.guard = none
 s:∀ cs b,o.op ≠ .select cs b
 d:∃ d,o.dst = some d
 r:∀ j d,Vl.dst L j = some d → Tb.readsT o d = true → j < n ∧ ∃ e ∈ o.after,Region.binds md e = true ∧ e.on = j
theorem pok {md:Region.Mode} {n:Nat} (h:preB md L n = true) {i:Nat} {o:Oper} (hi:L[i]? = some o) (hn:i < n):POk md L n o:=by
 unfold preB at h
 rw [Bool.and_eq_true,List.all_eq_true] at h
 have hm:o ∈ L.take n:=List.mem_of_getElem? (i:=i) (by rw [List.getElem?_take,if_pos hn];exact hi)
 have h1:=h.2 o hm
 unfold preOp at h1
 simp only [Bool.and_eq_true] at h1
 obtain ⟨⟨⟨hg,hs⟩,hd⟩,hr⟩:=h1
 have k1:o.guard = none:=by cases hgg:o.guard with | none => rfl | some x => rw [hgg] at hg;cases hg
 have k3:∃ d,o.dst = some d:=by
  cases hdd:o.dst with
  | none => rw [hdd] at hd;cases hd
  | some x => exact ⟨x,rfl⟩
 refine ⟨k1,fun cs b e => (by rw [e] at hs;cases hs),k3,fun j d hj hrd => ?_⟩
 obtain ⟨oj,hoj,_⟩:=dst_some hj
 have h2:=(List.all_eq_true.1 hr) j (List.mem_range.2 (List.getElem?_eq_some_iff.1 hoj).1)
 rw [hj] at h2
 simp only [hrd,Bool.not_true,Bool.false_or,Bool.and_eq_true,decide_eq_true_eq,Array.any_eq_true'] at h2
 obtain ⟨h3,e,he,hbe⟩:=h2
 simp only [beq_iff_eq] at hbe
 exact ⟨h3,e,he,hbe.1,hbe.2⟩
def W (L:List Oper) (n:Nat) (A:Act) (V:(Nat → Bool) → Nat → Value → World → Prop) (l:Nat → Bool) (i:Nat) (v:Value) (w:World):Prop :=
 if i < n then v = A.tmps.getD ((Vl.dst L i).getD 0) undef else V l i v w
theorem W.pre {n:Nat} {A:Act} {l:Nat → Bool} {i:Nat} {v:Value} {w:World} (h:W L n A V l i v w) (hi:i < n) {d:Nat} (hd:Vl.dst L i = some d):v = A.tmps.getD d undef:=by
 unfold W at h
 rw [if_pos hi,hd] at h
 exact h
theorem W.post {n:Nat} {A:Act} {l:Nat → Bool} {i:Nat} {v:Value} {w:World} (h:W L n A V l i v w) (hi:¬ i < n):V l i v w:=by
 unfold W at h
 rwa [if_neg hi] at h
theorem W.up {n:Nat} {A:Act} {l l':Nat → Bool} {i:Nat} {v:Value} {w w':World} (h:W L n A V l i v w) (hv:¬ i < n → V l i v w → V l' i v w'):W L n A V l' i v w':=by
 unfold W at h ⊢
 split
 ·rwa [if_pos (by assumption)] at h
 ·rw [if_neg (by assumption)] at h
  exact hv (by assumption) h
theorem W.mk {n:Nat} {A:Act} {l:Nat → Bool} {i:Nat} {v:Value} {w:World} (hi:¬ i < n) (h:V l i v w):W L n A V l i v w:=by
 unfold W
 rwa [if_neg hi]
theorem all {n:Nat} {A:Act} {a':Act} {w':World} (h:Vm.I L (W L n A V) S a (fun _ => true) a' w') (hA:A.defers = a.defers) (hz:A.tmps.size = a.tmps.size) (ho:∀ s,(∀ i,Vl.dst L i ≠ some s) → A.tmps.getD s undef = a.tmps.getD s undef) (ds:List Nat) (hds:∀ i d,¬ i < n → Vl.dst L i = some d → d ∈ ds) :
  a' = ds.foldl (fun x d => x.put (some d) (a'.tmps.getD d undef)) A:=by
 obtain ⟨h1,h2,h3⟩:=Vl.foldl_put a' ds A
 generalize (ds.foldl (fun x d => x.put (some d) (a'.tmps.getD d undef)) A) = y at h1 h2 h3
 have hs:a'.tmps = y.tmps:=by
  refine Array.ext (h.size.trans (hz.symm.trans h2.symm)) fun k hk1 hk2 => ?_
  have e:a'.tmps.getD k undef = y.tmps.getD k undef:=by
   rw [h3 k (by rw [hz,← h.size];exact hk1)]
   by_cases hm:k ∈ ds
   ·rw [if_pos hm]
   ·rw [if_neg hm]
    by_cases hw:∃ i,Vl.dst L i = some k
    ·obtain ⟨i,hi⟩:=hw
     have hin:i < n:=Classical.byContradiction fun e => hm (hds i k e hi)
     exact (h.vals i k rfl hi).pre hin hi
    ·have hw:∀ i,Vl.dst L i ≠ some k:=fun i e => hw ⟨i,e⟩
     rw [ho k hw]
     exact h.other k fun i _ => hw i
  rw [Array.getD_eq_getD_getElem?,Array.getD_eq_getD_getElem?,Array.getElem?_eq_getElem hk1,Array.getElem?_eq_getElem hk2] at e
  exact e
 have hdf:a'.defers = y.defers:=h.defers.trans (hA.symm.trans h1.symm)
 cases a'
 cases y
 simp only at hs hdf
 rw [hs,hdf]
theorem wp_region_pre (n:Nat) (V:(Nat → Bool) → Nat → Value → World → Prop) (S:(Nat → Bool) → World → Prop) (C:World → Prop) (A:Act) {id:Nat} {Q:Exit → Act → World → Prop} {w:World} (hm:P.follows .mixedOrders = true) (hd:downB .any L.toArray = true) (hpre:preB .any L n = true) (hB:Vl.dstB L a.tmps.size = true)
  (hVl:∀ l l',(∀ i,n ≤ i → i < L.length → l i = l' i) → ∀ i v w,V l i v w → V l' i v w) (hS:∀ l l' w,(∀ i,n ≤ i → i < L.length → l i = l' i) → S l w → S l' w) (hSC:∀ l w,S l w → C w)
  (hVb:∀ l i v W W',V l i v W → Below W.heap.size W W' → V l i v W') (hSb:∀ l W W',S l W → Below W.heap.size W W' → C W' → S l W') (h0:S (fun _ => false) { w with drawn:=w.drawn + 1 })
  (hwalk:∀ R:World → Prop,(∀ W W',R W → Below W.heap.size W W' → R W') → Nonempty (InW (fun W => C W ∧ R W)) → wpQuiet P (L.take n).toArray (fun w' => ∃ s:InW (fun W => C W ∧ R W),w' = s.W) (fun a' => a' = A) (L.take n) a)
  (hst:StepsI P .any L.toArray Q (Vm.I L (W L n A V) S a) n (L.drop n))
  (hend:∀ a' w',Vm.I L (W L n A V) S a (fun _ => true) a' w' → (∀ ds:List Nat,(List.range L.length).all (fun i => decide (i < n) || match Vl.dst L i with | none => true | some d => ds.contains d) = true → a' = ds.foldl (fun x d => x.put (some d) (a'.tmps.getD d undef)) A) → Q .normal a' w'):(Code.region id L.toArray true).wp P Q a w:=by
 have hn:n ≤ L.length:=by unfold preB at hpre;rw [Bool.and_eq_true,decide_eq_true_eq] at hpre;exact hpre.1
 have htk:∀ {o},o ∈ L.take n → ∃ i,i < n ∧ L[i]? = some o:=fun {o} ho => by
  obtain ⟨i,hi⟩:=List.getElem?_of_mem ho
  rw [List.getElem?_take] at hi
  split at hi
  ·exact ⟨i,by assumption,hi⟩
  ·cases hi
 have hlt:∀ {i d},Vl.dst L i = some d → i < L.length:=fun {i d} e => by
  obtain ⟨o,ho,_⟩:=dst_some e
  exact (List.getElem?_eq_some_iff.1 ho).1
 have getW:∀ R:World → Prop,(∀ W W',R W → Below W.heap.size W W' → R W') → (∃ W,C W ∧ R W) → A.defers = a.defers ∧ A.tmps.size = a.tmps.size ∧ (∀ s,(∀ o ∈ L.take n,o.dst ≠ some s) → A.tmps.getD s undef = a.tmps.getD s undef) ∧
   ∀ (o:Oper),o ∈ L.take n → ∀ d,o.dst = some d → ∀ w,(∃ s:InW (fun W => C W ∧ R W),w = s.W) → o.quietAt P A (fun w' => ∃ s:InW (fun W => C W ∧ R W),w' = s.W) w (A.tmps.getD d undef):=fun R hR ⟨W,hW⟩ => by
  refine Tb.walk_get (C:=fun w' => ∃ s:InW (fun W => C W ∧ R W),w' = s.W) (L.take n) a (fun o ho => ?_) ?_ (fun o ho d hdo => ?_) (hwalk R hR ⟨⟨W,hW⟩⟩)
  ·obtain ⟨i,hin,hi⟩:=htk ho
   have k:=pok hpre hi hin
   obtain ⟨d,hdd⟩:=k.d
   exact ⟨k.g,k.s,d,hdd,Vl.dstB_lt hB (dst_of hi hdd)⟩
  ·refine List.pairwise_iff_getElem.2 fun i j hi hj hij => ?_
   have hin:i < n:=by rw [List.length_take] at hi;omega
   have hjn:j < n:=by rw [List.length_take] at hj;omega
   have ei:L[i]? = some (L.take n)[i]:=by rw [List.getElem_take];exact List.getElem?_eq_getElem _
   have ej:L[j]? = some (L.take n)[j]:=by rw [List.getElem_take];exact List.getElem?_eq_getElem _
   refine ⟨fun e => ?_,fun d hdy => ?_⟩
   ·obtain ⟨d,hdd⟩:=(pok hpre ei hin).d
    exact Vl.dstB_ne hB (dst_of ei hdd) (m:=j) (by omega) (dst_of ej (by rw [← e,hdd]))
   ·cases hr:Tb.readsT (L.take n)[i] d with
    | false => rfl
    | true =>
     obtain ⟨_,e,he,hb,hon⟩:=(pok hpre ei hin).r j d (dst_of ej hdy) hr
     have:=downB_spec hd (i:=i) (o:=_) (by rw [List.getElem?_toArray];exact ei) he hb
     omega
  ·obtain ⟨i,hin,hi⟩:=htk ho
   cases hr:Tb.readsT o d with
   | false => rfl
   | true =>
    obtain ⟨_,e,he,hb,hon⟩:=(pok hpre hi hin).r i d (dst_of hi hdo) hr
    have:=downB_spec hd (i:=i) (by simpa using hi) he hb
    omega
 refine Vm.wp_region_val (W L n A V) S hm hd (fun l l' he i v w h => ?_) (fun l l' w he => hS l l' w fun i _ hi => he i hi) h0 (fun _ => ?_) hB (fun a' w' h => hend a' w' h fun ds hds => ?_)
 ·unfold W at h ⊢
  split
  ·rwa [if_pos (by assumption)] at h
  ·rw [if_neg (by assumption)] at h
   exact hVl l l' (fun i _ hi => he i hi) i v w h
 rotate_left
 ·obtain ⟨W,hW⟩:∃ W,C W ∧ True:=⟨_,hSC _ _ h0,trivial⟩
  obtain ⟨g1,g2,g3,_⟩:=getW (fun _ => True) (fun _ _ _ _ => trivial) ⟨W,hW⟩
  refine all h g1 g2 (fun s hs => g3 s fun o ho e => ?_) ds fun i d hin hd => ?_
  ·obtain ⟨i,_,hi⟩:=htk ho
   exact hs i (dst_of hi e)
  ·have:=(List.all_eq_true.1 hds) i (List.mem_range.2 (hlt hd))
   rw [hd] at this
   simpa [hin] using this
 have key:∀ i o,i < n → L[i]? = some o → ∀ l a' w',l i = false → upB .any o l = true → Vm.I L (W L n A V) S a l a' w' → wpOp P L.toArray Q i (Vm.I L (W L n A V) S a (fun j => j == i || l j)) a' w':=by
  intro i o hin hi l a' w' hl hu h
  have k:=pok hpre hi hin
  obtain ⟨d,hdd⟩:=k.d
  have hmem:o ∈ L.take n:=List.mem_of_getElem? (i:=i) (by rw [List.getElem?_take,if_pos hin];exact hi)
  obtain ⟨_,_,hoth,hq⟩:=getW (fun W => Below w'.heap.size w' W) (fun W W' h1 h2 => h1.trans (h2.mono h1.size)) ⟨w',hSC l w' h.st,Below.refl _ _⟩
  have hqo:=hq o hmem d hdd
  have hev:execOp a'.eval o = execOp A.eval o:=execOp_congr o k.s fun y hy => Tb.eval_same fun s hs => by
   have hrd:=Tb.reads_mem hy hs
   by_cases hw:∃ j,Vl.dst L j = some s
   ·obtain ⟨j,hj⟩:=hw
    obtain ⟨hjn,e,he,hb,hon⟩:=k.r j s hj hrd
    have hlj:l j = true:=by rw [← hon];exact Tb.up_of hu he hb
    exact (h.vals j s hlj hj).pre hjn hj
   ·have hw:∀ j,Vl.dst L j ≠ some s:=fun j e => hw ⟨j,e⟩
    rw [hoth s fun o2 ho2 e => by
     obtain ⟨j,_,hj⟩:=htk ho2
     exact hw j (dst_of hj e)]
    exact h.other s fun j _ => hw j
  have hi':L.toArray[i]? = some o:=by simpa using hi
  have hVl':∀ (l':Nat → Bool),(∀ j,n ≤ j → j < L.length → l j = l' j) → ∀ j v W',V l j v W' → V l' j v W':=fun l' he j v W' => hVl l l' he j v W'
  have hup:∀ j,n ≤ j → j < L.length → l j = (fun j => j == i || l j) j:=fun j hj _ => by
   show l j = (j == i || l j)
   rw [show (j == i) = false by simp;omega,Bool.false_or]
  refine Tb.wpOp_of hi' k.g (Oper.wp_of_quiet (C:=fun w1 => ∃ s:InW (fun W => C W ∧ Below w'.heap.size w' W),w1 = s.W) (K:=fun b => b = a'.put (some d) (A.tmps.getD d undef)) ⟨⟨w',hSC l w' h.st,Below.refl _ _⟩,rfl⟩ (fun b W' hWW hb => ?_) ⟨A.tmps.getD d undef,fun W' hWW => ?_,by rw [hdd]⟩)
  ·obtain ⟨s0,rfl⟩:=hWW
   have hW:=s0.h
   subst hb
   rw [← hdd]
   refine h.next (sz:=0) hB i hi (A.tmps.getD d undef) hl (fun j dj hlj hdj hv => ?_) ?_ (hS l _ _ hup (hSb l _ _ h.st hW.2 hW.1))
   ·unfold W at hv ⊢
    split
    ·rwa [if_pos (by assumption)] at hv
    ·rw [if_neg (by assumption)] at hv
     exact hVl' _ hup _ _ _ (hVb _ _ _ _ _ hv hW.2)
   ·unfold W
    rw [if_pos hin,dst_of hi hdd];rfl
  ·obtain ⟨s0,rfl⟩:=hWW
   have:=hqo s0.W ⟨s0,rfl⟩
   unfold Oper.quietAt at this ⊢
   rw [hev];exact this
 refine Tb.steps_of L 0 fun i o hi l a' w' hl hu h => ?_
 rw [Nat.zero_add] at hl ⊢
 by_cases hin:i < n
 ·exact key i o hin hi l a' w' hl hu h
 ·have:=StepsI.get (L.drop n) n (i - n) o hst (by rw [List.getElem?_drop,show n + (i - n) = i by omega];exact hi) l a' w' (by rw [show n + (i - n) = i by omega];exact hl) hu h
  rwa [show n + (i - n) = i by omega] at this
end
end Go.Proofs.YtphamecphmbipaaGreatDoor.Vp

namespace Go.Proofs.YtphamecphmbipaaGreatDoor
open Go.RowKit
set_option linter.unusedVariables false
def UnR (W:World) (base ug n:Nat) (u:Nat → List Nat):Prop :=
 ∃ (a:Nat → Option Addr) (c:Nat → Nat),RArr W ug 37 1 n (fun t => [.slice (a t) (u t).length (c t)]) ∧ ∀ t,t < n → RMine W base 3 1 (.slice (a t) (u t).length (c t)) (u t).length (nmF (u t))
theorem UnR.below {W W':World} {base ug n:Nat} {u:Nat → List Nat} (h:UnR W base ug n u) (hb:Below W.heap.size W W'):UnR W' base ug n u:=by
 obtain ⟨a,c,h1,h2⟩:=h
 exact ⟨a,c,h1.below hb,fun t ht => RMine.below (h2 t ht) hb⟩
theorem UnR.lt {W:World} {base ug n:Nat} {u:Nat → List Nat} (h:UnR W base ug n u):ug < W.heap.size:=by obtain ⟨a,c,h1,h2⟩:=h;exact h1.lt
theorem arr_own_ne {W:World} {g:Nat} {T e:TypeId} {m n:Nat} {f:Nat → List Value} (h:RArr W g T m n f) {base size k:Nat} {v:Value} {xs:List Value} (ho:W.ownsRow base e size v k xs) (hT:T ≠ e):v.ownBlock ≠ some g:=by
 obtain ⟨cs,hc,_⟩:=h.blk
 exact at_own_neS (show At W g T cs from hc) ho (fun e => hT e.symm)
theorem UnR.set {W:World} {base ug n:Nat} {u:Nat → List Nat} (h:UnR W base ug n u) {t:Nat} (ht:t < n) {l:List Nat} {va:Option Addr} {vc:Nat} (hv:RMine W base 3 1 (.slice va l.length vc) l.length (nmF l)):UnR (W.setCell ⟨ug,t,none⟩ (.slice va l.length vc)) base ug n (updN u t l):=by
 obtain ⟨a,c,h1,h2⟩:=h
 have ho:Only ug W (W.setCell ⟨ug,t,none⟩ (.slice va l.length vc)):=Only.setCell W ⟨ug,t,none⟩ _
 refine ⟨fun i => if i = t then va else a i,fun i => if i = t then vc else c i,?_,fun i hi => ?_⟩
 ·have:=h1.cellset (k:=t) (j:=0) ht (by decide) (fun _ => rfl) (.slice va l.length vc)
  rw [Nat.mul_one,Nat.add_zero] at this
  refine this.congr fun i hi => ?_
  unfold updN
  by_cases e:i = t
  ·simp only [e,if_true];rfl
  ·simp only [e,if_false]
 ·have key:∀ {v k xs},W.ownsRow base 3 1 v k xs → (W.setCell ⟨ug,t,none⟩ (.slice va l.length vc)).ownsRow base 3 1 v k xs:=fun {v k xs} hx => own_only hx ho (arr_own_ne h1 hx (by decide))
  unfold updN
  by_cases e:i = t
  ·simp only [e,if_true];exact key hv
  ·simp only [e,if_false];exact key (h2 i hi)
structure DsS (w:World) (p b off:Nat) (x:Im) (cs:Array Value) (q ug:Nat) (u:Nat → List Nat) (W:World):Prop where
 s:CkX w p b off x cs q W
 u:UnR W w.heap.size ug (x.ni + 1) u
theorem DsS.below {w:World} {p b off:Nat} {x:Im} {cs:Array Value} {q ug:Nat} {u:Nat → List Nat} {W W':World} (h:DsS w p b off x cs q ug u W) (hb:Below W.heap.size W W'):DsS w p b off x cs q ug u W':=⟨h.s.below hb,h.u.below hb⟩
def DirsPost (w:World) (p b off cap:Nat) (x:Im) (ds orp own sl:Value) (q:Nat) (e:Ending) (w':World):Prop :=
 w.grownBy w' (some p) ∧ ((x.dirs = none ∧ e = .panicked (brk 9)) ∨ ∃ u g,x.dirs = some u ∧ e = .returned (.tuple #[]) ∧ w.heap.size ≤ g ∧
  At w' p 105 (XC b off cap x ds (.slice (some ⟨q,0,none⟩) (x.ni + 1) (x.ni + 1)) orp own sl (.slice (some ⟨g,0,none⟩) (x.ni + 1) (x.ni + 1))) ∧ UnR w' w.heap.size g (x.ni + 1) u)
theorem info_sl18:(Tryz.prog.info? 37).map (fun i => (i.zero,i.size,i.bytes)) = some (some (.slice none 0 0),1,24):=by kernel_rfl
theorem run_mkrows18 (n:Nat) (hn:n ≤ 2048) (W:World):(Instr.makeSlice 103 (.int .i64 (n:Int)) (.int .i64 (n:Int))).run Tryz.prog W = .ok (.slice (some ⟨W.heap.size,0,none⟩) n n) (W.alloc (.cells (madeCells #[.slice none 0 0] (n * 1)) 37)) :=
 run_mkrow (P:=Tryz.prog) 103 37 (.slice none 0 0) 1 24 Tryz.underlying103 info_sl18 .i64 .i64 n (by omega) (by omega) W
def V5 (x:Im) (B ug k:Nat) (i:Nat) (v:Value) (W:World):Prop :=
 if i = 7 then ∃ r a c,x.dirF k = some r ∧ v = .slice a r.2.length c ∧ RMine W B 3 1 (.slice a r.2.length c) r.2.length (nmF r.2)
 else if i = 8 then v = .pointer (some ⟨ug,0 + k * 1,none⟩) else True
theorem V5.below {x:Im} {B ug k:Nat} {i:Nat} {v:Value} {W W':World} (h:V5 x B ug k i v W) (hb:Below W.heap.size W W'):V5 x B ug k i v W':=by
 unfold V5 at h ⊢
 by_cases h7:i = 7
 ·rw [if_pos h7] at h ⊢
  obtain ⟨r,a,c,e1,e2,h⟩:=h
  exact ⟨r,a,c,e1,e2,RMine.below h hb⟩
 ·rw [if_neg h7] at h ⊢;exact h
structure S5 (w:World) (p b off:Nat) (x:Im) (cs:Array Value) (q ug k:Nat) (u:Nat → List Nat) (l:Nat → Bool) (W:World):Prop where
 n:l 9 = false → DsS w p b off x cs q ug u W
 y:l 9 = true → ∃ r,x.dirF k = some r ∧ DsS w p b off x cs q ug (updN u k r.2) W
 o:l 9 = true → l 7 = true
theorem S5.c {w:World} {p b off:Nat} {x:Im} {cs:Array Value} {q ug k:Nat} {u:Nat → List Nat} {l:Nat → Bool} {W:World} (h:S5 w p b off x cs q ug k u l W):CkX w p b off x cs q W:=by
 cases e:l 9 with
 | false => exact (h.n e).s
 | true => obtain ⟨r,_,h⟩:=h.y e;exact h.s
theorem S5.below {w:World} {p b off:Nat} {x:Im} {cs:Array Value} {q ug k:Nat} {u:Nat → List Nat} {l l':Nat → Bool} {W W':World} (h:S5 w p b off x cs q ug k u l W) (hl:l' 9 = l 9) (h7:l 7 = true → l' 7 = true) (hb:Below W.heap.size W W'):S5 w p b off x cs q ug k u l' W' :=
 ⟨fun e => (h.n (hl ▸ e)).below hb,fun e => by obtain ⟨r,e1,h⟩:=h.y (hl ▸ e);exact ⟨r,e1,h.below hb⟩,fun e => h7 (h.o (hl ▸ e))⟩
set_option maxRecDepth 100000 in
set_option maxHeartbeats 16000000 in
theorem ckDirs_any (p b off cap:Nat) (x:Im) (hx:x.Ok) (hM:∀ t,1 ≤ t → t ≤ x.ni → (x.ino t).May) (hT:∀ t,1 ≤ t → t ≤ x.ni → (x.ino t).kind ≠ 0 → x.Tree t) (ds orp own sl:Value) (q:Nat) (w:World) (hbp:b ≠ p) (hqp:q ≠ p) (h:CkX w p b off x (XC b off cap x ds (.slice (some ⟨q,0,none⟩) (x.ni + 1) (x.ni + 1)) orp own sl (.slice none 0 0)) q w) :
  Calls Tryz.prog 83 #[.pointer (some ⟨p,0,none⟩)] w fun e w' => DirsPost w p b off cap x ds orp own sl q e w':=by
 have HX:=Lib.hid hx
 have hni:x.ni ≤ 256:=gi_bd hx.may
 have c11:w.cell? ⟨p,11,none⟩ = some (.slice (some ⟨q,0,none⟩) (x.ni + 1) (x.ni + 1)):=h.a.cell (i:=11) rfl
 obtain ⟨g,hg⟩:∃ g,g = w.heap.size:=⟨_,rfl⟩
 have hpw:=h.a.lt
 have hbw:=h.bl
 have hqw:=h.r.lt
 have hmk:(Instr.makeSlice 103 (.int .i64 ((x.ni:Int) + 1)) (.int .i64 ((x.ni:Int) + 1))).run Tryz.prog w = .ok (.slice (some ⟨g,0,none⟩) (x.ni + 1) (x.ni + 1)) (w.alloc (.cells (madeCells #[.slice none 0 0] ((x.ni + 1) * 1)) 37)):=by
  rw [hg];exact run_mkrows18 (x.ni + 1) (by omega) w
 obtain ⟨W1,hW1⟩:∃ W1,W1 = w.alloc (.cells (madeCells #[.slice none 0 0] ((x.ni + 1) * 1)) 37):=⟨_,rfl⟩
 have hb1:Below w.heap.size w W1:=by rw [hW1];exact (Below.refl _ _).alloc (Nat.le_refl _) _
 have hr1:UnR W1 w.heap.size g (x.ni + 1) (fun _ => []):=by
  refine ⟨fun _ => none,fun _ => 0,?_,fun t _ => RMine.nil _ _ _ _ _⟩
  rw [hW1,hg];exact (RArr.made (m:=1) w #[.slice none 0 0] rfl (by omega) (x.ni + 1) _)
 have h1:=h.below hb1
 have hgp:g ≠ p:=by omega
 have hr2:UnR (W1.setCell ⟨p,15,none⟩ (.slice (some ⟨g,0,none⟩) (x.ni + 1) (x.ni + 1))) w.heap.size g (x.ni + 1) (fun _ => []):=by
  obtain ⟨a,c,k1,k2⟩:=hr1
  exact ⟨a,c,k1.only (Only.setCell W1 ⟨p,15,none⟩ _) hgp,fun t ht => own_only (k2 t ht) (Only.setCell W1 ⟨p,15,none⟩ _) (fun e => by have:=(World.ownsRow.lt (k2 t ht) p e).1;omega)⟩
 have ST1:Hid (DsS w p b off x (XC b off cap x ds (.slice (some ⟨q,0,none⟩) (x.ni + 1) (x.ni + 1)) orp own sl (.slice (some ⟨g,0,none⟩) (x.ni + 1) (x.ni + 1))) q g (fun _ => []) (W1.setCell ⟨p,15,none⟩ (.slice (some ⟨g,0,none⟩) (x.ni + 1) (x.ni + 1)))) :=
  ⟨h1.setF 15 _ hbp hqp,hr2⟩
 have c15:W1.cell? ⟨p,15,none⟩ = some (.slice none 0 0):=h1.a.cell (i:=15) rfl
 have f15:W1.frozen? ⟨p,15,none⟩ = false:=soft_of_heap h1.a 15
 have hgw:w.heap.size ≤ g:=by omega
 rw [← hW1] at hmk
 have HDC:Hid (∀ (t:Nat) (W:World),1 ≤ t → t ≤ x.ni → (x.ino t).kind = 2 → CkX w p b off x (XC b off cap x ds (.slice (some ⟨q,0,none⟩) (x.ni + 1) (x.ni + 1)) orp own sl (.slice (some ⟨g,0,none⟩) (x.ni + 1) (x.ni + 1))) q W → w.heap.size ≤ W.heap.size →
  Calls Tryz.prog 133 #[.pointer (some ⟨p,0,none⟩),.int .i64 (t:Int)] W fun e w' => DirPost W x t e w') :=
  fun t W ht1 ht2 hk hW hs => ckDir_any p b off cap x hx ds orp own sl _ q t ht1 ht2 (hM t ht1 ht2) (hT t ht1 ht2 (by rw [hk];decide)) W (by omega) (by omega) (by omega) hW.self
 obtain ⟨cs,hcs⟩:∃ cs,cs = XC b off cap x ds (.slice (some ⟨q,0,none⟩) (x.ni + 1) (x.ni + 1)) orp own sl (.slice (some ⟨g,0,none⟩) (x.ni + 1) (x.ni + 1)):=⟨_,rfl⟩
 have HCS:Hid (∀ W,At W p 105 cs → W.cell? ⟨p,11,none⟩ = some (.slice (some ⟨q,0,none⟩) (x.ni + 1) (x.ni + 1)) ∧ W.cell? ⟨p,15,none⟩ = some (.slice (some ⟨g,0,none⟩) (x.ni + 1) (x.ni + 1)) ∧ At W p 105 (XC b off cap x ds (.slice (some ⟨q,0,none⟩) (x.ni + 1) (x.ni + 1)) orp own sl (.slice (some ⟨g,0,none⟩) (x.ni + 1) (x.ni + 1)))):=fun W h => by
  rw [hcs] at h
  exact ⟨h.cell (i:=11) rfl,h.cell (i:=15) rfl,h⟩
 rw [← hcs] at ST1 HDC
 have HGW:=Lib.hid hgw
 clear h h1 hb1 hr1 hr2 hW1 hx hgw hcs hM hT hg
 go_enter Tryz.func83,Tryz.ntmps83
 go_wp2_with fail
 clear c11 hmk c15 f15
 go_loopw [2] (fun v wr => ∃ (k:Nat) (u:Nat → List Nat),k ≤ x.ni ∧ v = .int .i64 ((k:Int) + 1) ∧ foldO (fun t u => if (x.ino (t + 1)).kind = 2 then (x.dirF (t + 1)).map (fun r => updN u (t + 1) r.2) else some u) k (fun _ => []) = some u ∧ DsS w p b off x cs q g u wr) (fun v _ => x.ni + 1 - (intOf v).toNat)
 case atStart => exact ⟨0,fun _ => [],Nat.zero_le _,rfl,rfl,ST1.out⟩
 case round =>
  clear ST1
  obtain ⟨k,u,hk,rfl,hfo,st⟩:=hrel
  have HFO:=Lib.hid hfo
  have ST:=Lib.hid st
  clear hfo st
  obtain ⟨c11,_,_⟩:=HCS.out _ ST.out.s.a
  by_cases hlt:k < x.ni
  ·have hlt':(k:Int) + 1 < (x.ni:Int) + 1:=by omega
   have k0:(0:Int) ≤ (k:Int) + 1:=by omega
   have cK:wr.cell? ⟨q,(k + 1) * 16,none⟩ = some (.int .u8 (x.ino (k + 1)).kind):=ST.out.s.ino (t:=k + 1) (by omega) 0 rfl
   obtain ⟨kd,hkd⟩:∃ kd,kd = (x.ino (k + 1)).kind:=⟨_,rfl⟩
   have HKD:=Lib.hid hkd
   rw [← hkd] at cK
   clear hkd
   by_cases hk2:kd = 2
   rotate_left
   ·have q0:(kd == 2) = false:=by simp [hk2]
    have HN:Hid (foldO (fun t u => if (x.ino (t + 1)).kind = 2 then (x.dirF (t + 1)).map (fun r => updN u (t + 1) r.2) else some u) (k + 1) (fun _ => []) = some u):=foldO_next HFO.out (by rw [if_neg (by rw [← HKD.out];exact hk2)])
    clear hk2
    go_wp2_with fail
    go_roundw
    case rel => first | exact ⟨k + 1,u,by omega,by first | rfl | go_num,HN.out,ST.out⟩ | ((repeat apply Exists.intro);exact ⟨⟨k + 1,u,by omega,by first | rfl | go_num,HN.out,ST.out⟩,rfl⟩)
    case measure => simp [intOf] <;> omega
   have q0:(kd == 2) = true:=by simp [hk2]
   have HK2:=Lib.hid hk2
   have HNO:Hid (x.dirF (k + 1) = none → x.dirs = none):=fun h => foldO_none HFO.out (by rw [if_pos (by rw [← HKD.out];exact hk2),h];rfl) hlt
   clear hk2
   go_wp2_with fail
   apply Vp.wp_region_pre 7 (fun l i v W => V5 x w.heap.size g (k + 1) i v W) (S5 w p b off x cs q g (k + 1) u) (fun W => CkX w p b off x cs q W)
   case hm => kernel_rfl
   case hd => kernel_rfl
   case hpre => kernel_rfl
   case hB => kernel_rfl
   case hVl => exact fun l l' he i v W h => h
   case hS => exact fun l l' W he h => h.below (he 9 (by decide) (by decide)).symm (fun e => by rw [← he 7 (by decide) (by decide)];exact e) (Below.refl _ _)
   case hSC => exact fun l W h => h.c
   case hVb => exact fun l i v W W' h hb => h.below hb
   case hSb => exact fun l W W' h hb _ => h.below rfl (fun e => e) hb
   case h0 => exact ⟨fun _ => ST.out.below ⟨rfl,rfl,rfl,Nat.le_refl _,fun _ _ => rfl⟩,(fun e => by cases e),(fun e => by cases e)⟩
   case hwalk =>
    simp only [List.take_succ_cons,List.take_zero]
    intro R hR hne
    have d15:∀ y:InW (fun W => CkX w p b off x cs q W ∧ R W),y.W.cell? ⟨p,15,none⟩ = some (.slice (some ⟨g,0,none⟩) (x.ni + 1) (x.ni + 1)):=fun y => (HCS.out _ y.h.1.a).2.1
    repeat (first | go_big_quiet_skip | (go_big_quiet_want;go_big_quiet_op;go_big_quiet_on))
    exact wpQuiet_nil rfl
   case hst =>
    simp only [List.drop_succ_cons,List.drop_zero]
    refine ⟨?_,?_,?_,trivial⟩
    ·intro l a W hl hu h
     have e1:a.tmps.getD 35 undef = .pointer (some ⟨p,0,none⟩):=(h.vals 5 35 (op_up hu 5 (by kernel_rfl)) rfl).pre (by decide) rfl
     have e2:a.tmps.getD 36 undef = .int .i64 ((k:Int) + 1):=(h.vals 6 36 (op_up hu 6 (by kernel_rfl)) rfl).pre (by decide) rfl
     refine Vm.step h (by kernel_rfl) rfl rfl rfl hl (Vl.op_callP 133 #[.pointer (some ⟨p,0,none⟩),.int .i64 ((k:Int) + 1)] (Vl.r_call2 133 (.tmp 35) (.tmp 36) _ _ _ rfl e1 e2 (by kernel_rfl)) ?_)
     refine (HDC.out (k + 1) W (by omega) (by omega) (by rw [← HKD.out];exact HK2.out) h.st.c (h.st.c.gr.size)).mono ?_
     rintro e W' ⟨hb,hp⟩
     rcases hp with ⟨hn,rfl⟩ | ⟨r,v,hr,rfl,hv⟩
     ·refine .inr ⟨_,rfl,?_⟩
      exact ⟨h.defers,grown_trans h.st.c.gr (grown_below hb),.inl ⟨HNO.out hn,rfl⟩⟩
     ·have hsz:=h.st.c.gr.size
      obtain ⟨va,vc,rfl⟩:=RMine.form hv
      exact .inl ⟨_,rfl,_,rfl,fun i d _ _ hv => hv.up fun _ hv => hv.below hb,Vp.W.mk (by decide) ⟨r,va,vc,hr,rfl,RMine.low hv hsz⟩,h.st.below rfl (fun _ => rfl) hb⟩
    ·intro l a W hl hu h
     have e1:a.tmps.getD 33 undef = .slice (some ⟨g,0,none⟩) (x.ni + 1) (x.ni + 1):=(h.vals 3 33 (op_up hu 3 (by kernel_rfl)) rfl).pre (by decide) rfl
     have e2:a.tmps.getD 34 undef = .int .i64 (((k + 1:Nat):Int)):=(h.vals 4 34 (op_up hu 4 (by kernel_rfl)) rfl).pre (by decide) rfl
     exact Vm.stepQ h (by kernel_rfl) rfl rfl rfl hl _ (Vl.r_ixa 103 37 (.tmp 33) (.tmp 34) rfl Tryz.underlying103 1 info_1s g 0 (x.ni + 1) (x.ni + 1) (k + 1) e1 e2 (by omega)) (fun _ _ hv => hv.up fun _ hv => hv.below (Below.refl _ _)) (Vp.W.mk (by decide) rfl) (fun s => s.below rfl (fun e => e) (Below.refl _ _))
    ·intro l a W hl hu h
     obtain ⟨r,va,vc,hr,e37,hv⟩:=(h.vals 7 37 (op_up hu 7 (by kernel_rfl)) rfl).post (by decide)
     have e38:a.tmps.getD 38 undef = .pointer (some ⟨g,0 + (k + 1) * 1,none⟩):=(h.vals 8 38 (op_up hu 8 (by kernel_rfl)) rfl).post (by decide)
     have hs:=h.st.n hl
     obtain ⟨ua,uc,hu1,hu2⟩:=hs.u
     have hcell:W.cell? ⟨g,0 + (k + 1) * 1,none⟩ = some (.slice (ua (k + 1)) (u (k + 1)).length (uc (k + 1))):=by
      rw [Nat.zero_add,Nat.mul_one];exact hu1.int1 (by omega) rfl
     have hset:UnR (W.setCell ⟨g,k + 1,none⟩ (.slice va r.2.length vc)) w.heap.size g (x.ni + 1) (updN u (k + 1) r.2):=UnR.set hs.u (by omega) hv
     have hset':UnR (W.setCell ⟨g,0 + (k + 1) * 1,none⟩ (.slice va r.2.length vc)) w.heap.size g (x.ni + 1) (updN u (k + 1) r.2):=by rw [Nat.zero_add,Nat.mul_one];exact hset
     have ho:Only g W (W.setCell ⟨g,0 + (k + 1) * 1,none⟩ (.slice va r.2.length vc)):=Only.setCell W ⟨g,0 + (k + 1) * 1,none⟩ _
     have hck:=hs.s.only ho (fun e => hgp e.symm) (by have:=HGW.out;omega) (by have:=HGW.out;omega) HGW.out
     have hvk:RMine (W.setCell ⟨g,0 + (k + 1) * 1,none⟩ (.slice va r.2.length vc)) w.heap.size 3 1 (.slice va r.2.length vc) r.2.length (nmF r.2):=own_only hv ho (arr_own_ne hu1 hv (by decide))
     refine Vm.step h (by kernel_rfl) rfl rfl rfl hl (Vl.op_stc 37 (.tmp 38) (.tmp 37) rfl g (0 + (k + 1) * 1) (.slice va r.2.length vc) _ e38 e37 hcell (hu1.soft _) info_1s rfl ?_)
     refine ⟨_,rfl,fun i d _ hd hv' => hv'.up fun hi hv' => ?_,Vp.W.mk (by decide) trivial,⟨(fun e => by have e:true = false:=e;cases e),fun _ => ⟨r,hr,hck,hset'⟩,fun _ => op_up hu 7 (by kernel_rfl)⟩⟩
     by_cases h7:i = 7
     ·subst h7
      have hd:some 37 = some d:=hd
      injection hd with hd
      subst hd
      exact ⟨r,va,vc,hr,e37,hvk⟩
     ·unfold V5 at hv' ⊢
      rw [if_neg h7] at hv' ⊢
      exact hv'
   intro a' w8 h hall
   have hall2:=hall [37,38] (by kernel_rfl)
   clear hall
   obtain ⟨r7,va7,vc7,_,e37,_⟩:=(h.vals 7 37 rfl rfl).post (by decide)
   have e38:a'.tmps.getD 38 undef = .pointer (some ⟨g,0 + (k + 1) * 1,none⟩):=(h.vals 8 38 rfl rfl).post (by decide)
   obtain ⟨r,hr,hds⟩:=h.st.y rfl
   have HN:Hid (foldO (fun t u => if (x.ino (t + 1)).kind = 2 then (x.dirF (t + 1)).map (fun r => updN u (t + 1) r.2) else some u) (k + 1) (fun _ => []) = some (updN u (k + 1) r.2)):=foldO_next HFO.out (by rw [if_pos (by rw [← HKD.out];exact HK2.out),hr];rfl)
   have ST8:=Lib.hid hds
   rw [List.foldl_cons,List.foldl_cons,List.foldl_nil,e37,e38] at hall2
   simp only [Act.put,List.setIfInBounds_toArray,List.set_cons_succ,List.set_cons_zero] at hall2
   subst hall2
   clear h e37 e38 hr hds ST c11 cK
   go_wp2_with fail
   go_roundw
   case rel => first | exact ⟨k + 1,_,by omega,by first | rfl | go_num,HN.out,ST8.out⟩ | ((repeat apply Exists.intro);exact ⟨⟨k + 1,_,by omega,by first | rfl | go_num,HN.out,ST8.out⟩,rfl⟩)
   case measure => simp [intOf] <;> omega
  ·obtain rfl:k = x.ni:=by omega
   go_wp2_with fail
   refine bodyPost_end (results_none rfl _ _ _) rfl ⟨ST.out.s.gr,.inr ⟨u,g,HFO.out,rfl,HGW.out,(HCS.out _ ST.out.s.a).2.2,ST.out.u⟩⟩
end Go.Proofs.YtphamecphmbipaaGreatDoor
