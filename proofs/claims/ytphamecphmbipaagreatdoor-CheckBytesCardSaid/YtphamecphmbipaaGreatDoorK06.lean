/- Texts of this claim, merged by a program (a claim may have 60 files): Move. -/
import Derived.Test.YtphamecphmbipaaGreatDoorK05
namespace Go.Proofs.YtphamecphmbipaaGreatDoor.Mv
open Go.RowKit Go.Proofs.YtphamecphmbipaaGreatDoor
set_option linter.unusedVariables false
structure St where
 n:Nat
 v:Value
def plainOp (o:Oper):Bool:=match o.op with | .move _ | .assign _ | .pick _ _ _ | .build _ _ | .load _ _ | .binOp _ _ _ _ _ | .unOp _ _ _ | .convert _ _ _ | .fieldAddr _ _ _ | .field _ _ _ | .indexAddr _ _ _ | .index _ _ _ | .extract _ _ | .slice _ _ _ _ _ => true | _ => false
def mv (o:Oper):Bool:=!plainOp o
def chainB (md:Region.Mode) (ops:Array Oper):Bool :=
 (List.range ops.size).all fun j => (List.range j).all fun i => match ops[j]?,ops[i]? with
  | some oj,some oi => !(mv oi && mv oj) || (List.range j).any fun p => decide (i ≤ p) && ((ops[p]?).map mv).getD false && oj.after.any fun e => Region.binds md e && e.on == p
  | _,_ => true
section
variable {P:Program} {ops:Array Oper} {md:Region.Mode} {σ:Type} {C:σ → World → Prop}
theorem chainB_spec (h:chainB md ops = true) {i j:Nat} {oi oj:Oper} (hi:ops[i]? = some oi) (hj:ops[j]? = some oj) (ci:mv oi = true) (cj:mv oj = true) (hij:i < j) :
  ∃ p op,i ≤ p ∧ p < j ∧ ops[p]? = some op ∧ mv op = true ∧ ∃ e ∈ oj.after,Region.binds md e = true ∧ e.on = p:=by
 unfold chainB at h
 rw [List.all_eq_true] at h
 have h1:=h j (List.mem_range.2 (Array.getElem?_eq_some_iff.1 hj).1)
 rw [List.all_eq_true] at h1
 have h2:=h1 i (List.mem_range.2 hij)
 rw [hi,hj] at h2
 simp only [ci,cj,Bool.and_true,Bool.not_true,Bool.false_or,List.any_eq_true,Bool.and_eq_true,decide_eq_true_eq] at h2
 obtain ⟨p,hp,⟨hip,hc⟩,hany⟩:=h2
 rw [Array.any_eq_true'] at hany
 obtain ⟨e,he,hb⟩:=hany
 rw [Bool.and_eq_true,beq_iff_eq] at hb
 cases ho:ops[p]? with
 | none => rw [ho] at hc;cases hc
 | some op => rw [ho] at hc;exact ⟨p,op,hip,List.mem_range.1 hp,ho,by simpa using hc,e,he,hb.1,hb.2⟩
def stillUpon (w:World) (v:Value):Result Next → Prop
 | .ok (.value u) w' => w' = w ∧ u = v
 | .ok .skip w' => w' = w ∧ v = undef
 | _ => False
def movesUpon (P:Program) (R:Value → World → Prop):Result Next → Prop
 | .ok (.value u) w' => R u w'
 | .ok .skip w' => R undef w'
 | .ok (.enter f args) w' => Calls P f args w' fun e w'' => ∃ v,e = .returned v ∧ R v w''
 | _ => False
theorem movesUpon_mono {R R':Value → World → Prop} (h:∀ v w,R v w → R' v w) {r:Result Next} (hr:movesUpon P R r):movesUpon P R' r:=by
 unfold movesUpon at *
 split at hr
 ·exact h _ _ hr
 ·exact h _ _ hr
 ·exact hr.mono fun e w' hh => by obtain ⟨v,he,hR⟩:=hh;exact ⟨v,he,h _ _ hR⟩
 ·exact hr
theorem movesUpon_some {R:Value → World → Prop} {r:Result Next} (hr:movesUpon P R r) (hex:∀ f args w (R':Ending → World → Prop),Calls P f args w R' → ∃ e w',R' e w'):∃ v w,R v w:=by
 unfold movesUpon at hr
 split at hr
 ·exact ⟨_,_,hr⟩
 ·exact ⟨_,_,hr⟩
 ·obtain ⟨e,w',v,_,hR⟩:=hex _ _ _ _ hr;exact ⟨v,w',hR⟩
 ·exact hr.elim
def stillIn (P:Program) (C:σ → World → Prop) (o:Oper) (a:Act) (v:Value):Prop:=∀ w,(∃ s,C s w) → stillUpon w v ((execOp a.eval o).run P w)
def moveIn (P:Program) (C:σ → World → Prop) (s:σ) (o:Oper) (a:Act) (K:σ → Value → Prop):Prop:=∀ w,C s w → movesUpon P (fun v w' => ∃ s',C s' w' ∧ K s' v) ((execOp a.eval o).run P w)
def LX (P:Program) (ops:Array Oper) (C:σ → World → Prop) (o:Oper) (a:Act) (s:σ) (K:σ → Act → Prop):Prop :=
 (Region.wanted o (yielded ops a.tmps) = true ∧ ((mv o = true ∧ moveIn P C s o a (fun s' v => K s' (a.put o.dst v))) ∨ (mv o = false ∧ ∃ v,stillIn P C o a v ∧ K s (a.put o.dst v)))) ∨
 (Region.wanted o (yielded ops a.tmps) = false ∧ K s (a.put o.dst undef))
theorem stillIn_one {o:Oper} {a:Act} {u v:Value} {s:σ} {w:World} (hC:C s w) (h:stillIn P C o a u) (k:stillIn P C o a v):u = v:=by
 have h1:=h w ⟨s,hC⟩
 have h2:=k w ⟨s,hC⟩
 generalize (execOp a.eval o).run P w = r at *
 cases r with
 | ok n w' =>
  cases n <;> simp only [stillUpon] at h1 h2
  ·exact h1.2.symm.trans h2.2
  ·exact h1.2.trans h2.2.symm
 | halt x w' => simp only [stillUpon] at h1
def linOp (P:Program) (ops:Array Oper) (C:σ → World → Prop) (i:Nat) (K:σ → Act → Prop) (s:σ) (a:Act):Prop :=
 match ops[i]? with
 | none => K s a
 | some o => LX P ops C o a s K
def wpAnyL (P:Program) (md:Region.Mode) (ops:Array Oper) (C:σ → World → Prop) (Q:σ → Act → Prop):Nat → Array Bool → σ → Act → Prop
 | 0,listed,s,a => Region.ready md ops listed = [] ∧ Q s a
 | fuel + 1,listed,s,a => (Region.ready md ops listed = [] → Q s a) ∧ ∀ i ∈ Region.ready md ops listed,linOp P ops C i (wpAnyL P md ops C Q fuel (listed.setIfInBounds i true)) s a
def NE (C:σ → World → Prop) (s:σ):Prop:=∃ w,C s w
theorem LX.mono {o:Oper} {a:Act} {s:σ} {K K':σ → Act → Prop} (hs:NE C s) (h:∀ s a,NE C s → K s a → K' s a) (hh:LX P ops C o a s K):LX P ops C o a s K':=by
 rcases hh with ⟨hw,⟨hm,hk⟩ | ⟨hm,v,hv,hk⟩⟩ | ⟨hw,hk⟩
 ·exact .inl ⟨hw,.inl ⟨hm,fun w hC => movesUpon_mono (fun v w' hh => by obtain ⟨s',h1,h2⟩:=hh;exact ⟨s',h1,h _ _ ⟨_,h1⟩ h2⟩) (hk w hC)⟩⟩
 ·exact .inl ⟨hw,.inr ⟨hm,v,hv,h _ _ hs hk⟩⟩
 ·exact .inr ⟨hw,h _ _ hs hk⟩
theorem linOp_mono {i:Nat} {s:σ} {a:Act} {K K':σ → Act → Prop} (hs:NE C s) (h:∀ s a,NE C s → K s a → K' s a) (hh:linOp P ops C i K s a):linOp P ops C i K' s a:=by
 unfold linOp at *
 cases ho:ops[i]? with
 | none => rw [ho] at hh;exact h _ _ hs hh
 | some o => rw [ho] at hh;exact LX.mono hs h hh
theorem wpOp_of_lin {i:Nat} {s:σ} {a:Act} {K:σ → Act → Prop} {K':Act → World → Prop} {Q':Exit → Act → World → Prop} {w:World} (hC:C s w) (h:∀ s a w',C s w' → K s a → K' a w') (hh:linOp P ops C i K s a):wpOp P ops Q' i K' a w:=by
 unfold linOp at hh
 unfold wpOp
 split
 ·rename_i ho;simp only [ho] at hh;exact h _ _ _ hC hh
 ·rename_i o ho
  simp only [ho] at hh
  rcases hh with ⟨hw,hy⟩ | ⟨hw,hk⟩
  ·simp only [hw,if_true]
   refine .inl ?_
   unfold Oper.wp
   rcases hy with ⟨_,hk⟩ | ⟨_,v,hs,hk⟩
   ·have h3:=hk w hC
    generalize (execOp a.eval o).run P w = r at *
    cases r with
    | ok n w' =>
     cases n <;> simp only [movesUpon] at h3 <;> simp only [Oper.upon]
     ·obtain ⟨s',h4,h5⟩:=h3;exact h _ _ _ h4 h5
     ·obtain ⟨s',h4,h5⟩:=h3;exact h _ _ _ h4 h5
     ·exact h3.mono fun e w'' ⟨v,he,s',h4,h5⟩ => by subst he;exact h _ _ _ h4 h5
    | halt x w' => simp only [movesUpon] at h3
   ·have h3:=hs w ⟨_,hC⟩
    generalize (execOp a.eval o).run P w = r at *
    cases r with
    | ok n w' =>
     cases n <;> simp only [stillUpon] at h3 <;> simp only [Oper.upon]
     ·obtain ⟨rfl,rfl⟩:=h3;exact h _ _ _ hC hk
     ·obtain ⟨rfl,rfl⟩:=h3;exact h _ _ _ hC hk
    | halt x w' => simp only [stillUpon] at h3
  ·simp only [hw];exact h _ _ _ hC hk
theorem wpAny_of_lin {Q:σ → Act → Prop} {Q':Exit → Act → World → Prop} (hQ:∀ s a w,C s w → Q s a → Q' .normal a w):∀ (fuel:Nat) (listed:Array Bool) (s:σ) (a:Act) (w:World),C s w →
  wpAnyL P md ops C Q fuel listed s a → wpAny P md ops Q' fuel listed a w
 | 0,_,_,_,_,hw,h => ⟨h.1,hQ _ _ _ hw h.2⟩
 | fuel + 1,_,_,_,_,hw,h => ⟨fun h0 => hQ _ _ _ hw (h.1 h0),fun i hi => wpOp_of_lin hw (fun s' a' w' hw' => wpAny_of_lin hQ fuel _ s' a' w' hw') (h.2 i hi)⟩
theorem LX.linOp {i:Nat} {s:σ} {o:Oper} {a:Act} (hi:ops[i]? = some o) {K:σ → Act → Prop} (h:LX P ops C o a s K):linOp P ops C i K s a:=by
 unfold Mv.linOp
 simp only [hi]
 exact h
theorem linOp_put (hex:∀ f args w (R':Ending → World → Prop),Calls P f args w R' → ∃ e w',R' e w') {j:Nat} {oi oj:Oper} (hj:ops[j]? = some oj) (hap:oi.apart ops oj = true)
  (hsi:∀ cs b,oi.op ≠ .select cs b) (hsj:∀ cs b,oj.op ≠ .select cs b) (hcc:mv oi = false ∨ mv oj = false) {K:σ → Act → Prop} {a:Act} {s:σ} (hne:NE C s)
  (h:LX P ops C oi a s (fun s1 a1 => linOp P ops C j K s1 a1)):linOp P ops C j (fun s' a' => LX P ops C oi a' s' K) s a:=by
 obtain ⟨h1,h2,h3⟩:=Oper.apart_spec hap
 have ei:∀ u:Value,execOp (a.put oj.dst u).eval oi = execOp a.eval oi:=fun u => execOp_put oi hsi a oj.dst u h3
 have wi:∀ u:Value,Region.wanted oi (yielded ops (a.put oj.dst u).tmps) = Region.wanted oi (yielded ops a.tmps):=fun u => wanted_put oi a oj.dst u h3
 have ej:∀ v:Value,execOp (a.put oi.dst v).eval oj = execOp a.eval oj:=fun v => execOp_put oj hsj a oi.dst v h1
 have wj:∀ v:Value,Region.wanted oj (yielded ops (a.put oi.dst v).tmps) = Region.wanted oj (yielded ops a.tmps):=fun v => wanted_put oj a oi.dst v h1
 have cm:∀ u v:Value,(a.put oi.dst v).put oj.dst u = (a.put oj.dst u).put oi.dst v:=fun u v => Act.put_comm a v u h2
 have sj:∀ u v:Value,stillIn P C oj (a.put oi.dst v) u → stillIn P C oj a u:=fun u v hs => by unfold stillIn at *;rw [ej] at hs;exact hs
 have si:∀ u v:Value,stillIn P C oi a v → stillIn P C oi (a.put oj.dst u) v:=fun u v hs => by unfold stillIn at *;rw [ei];exact hs
 unfold Mv.linOp at *
 simp only [hj] at *
 obtain ⟨w0,hC0⟩:=hne
 rcases h with ⟨hw,⟨hm,hk⟩ | ⟨hm,v,hv,hk⟩⟩ | ⟨hw,hk⟩
 ·
  have hmj:mv oj = false:=by
   rcases hcc with h | h
   ·rw [hm] at h;cases h
   ·exact h
  obtain ⟨v0,w0',s0',hC0',hL0⟩:=movesUpon_some (hk w0 hC0) hex
  rcases hL0 with ⟨hwj,⟨hm2,_⟩ | ⟨_,u,hu,_⟩⟩ | ⟨hwj,_⟩
  ·rw [hmj] at hm2;cases hm2
  ·rw [wj] at hwj
   have hu':=sj u v0 hu
   refine .inl ⟨hwj,.inr ⟨hmj,u,hu',.inl ⟨by rw [wi];exact hw,.inl ⟨hm,fun w hC => ?_⟩⟩⟩⟩
   rw [ei]
   refine movesUpon_mono (fun v w' hh => ?_) (hk w hC)
   obtain ⟨s',hC',hL⟩:=hh
   refine ⟨s',hC',?_⟩
   rcases hL with ⟨hwj2,⟨hm2,_⟩ | ⟨_,u2,hu2,hK2⟩⟩ | ⟨hwj2,_⟩
   ·rw [hmj] at hm2;cases hm2
   ·have:u2 = u:=stillIn_one hC (sj u2 v hu2) hu'
    subst this
    rw [← cm];exact hK2
   ·rw [wj,hwj] at hwj2;cases hwj2
  ·rw [wj] at hwj
   refine .inr ⟨hwj,.inl ⟨by rw [wi];exact hw,.inl ⟨hm,fun w hC => ?_⟩⟩⟩
   rw [ei]
   refine movesUpon_mono (fun v w' hh => ?_) (hk w hC)
   obtain ⟨s',hC',hL⟩:=hh
   refine ⟨s',hC',?_⟩
   rcases hL with ⟨hwj2,_⟩ | ⟨_,hK2⟩
   ·rw [wj,hwj] at hwj2;cases hwj2
   ·rw [← cm];exact hK2
 ·
  rcases hk with ⟨hwj,⟨hm2,hk2⟩ | ⟨hm2,u,hu,hK⟩⟩ | ⟨hwj,hK⟩
  ·rw [wj] at hwj
   refine .inl ⟨hwj,.inl ⟨hm2,fun w hC => ?_⟩⟩
   have:=hk2 w hC
   rw [ej] at this
   refine movesUpon_mono (fun u w' hh => ?_) this
   obtain ⟨s',hC',hK⟩:=hh
   exact ⟨s',hC',.inl ⟨by rw [wi];exact hw,.inr ⟨hm,v,si u v hv,by rw [← cm];exact hK⟩⟩⟩
  ·rw [wj] at hwj
   exact .inl ⟨hwj,.inr ⟨hm2,u,sj u v hu,.inl ⟨by rw [wi];exact hw,.inr ⟨hm,v,si u v hv,by rw [← cm];exact hK⟩⟩⟩⟩
  ·rw [wj] at hwj
   exact .inr ⟨hwj,.inl ⟨by rw [wi];exact hw,.inr ⟨hm,v,si undef v hv,by rw [← cm];exact hK⟩⟩⟩
 ·
  rcases hk with ⟨hwj,⟨hm2,hk2⟩ | ⟨hm2,u,hu,hK⟩⟩ | ⟨hwj,hK⟩
  ·rw [wj] at hwj
   refine .inl ⟨hwj,.inl ⟨hm2,fun w hC => ?_⟩⟩
   have:=hk2 w hC
   rw [ej] at this
   refine movesUpon_mono (fun u w' hh => ?_) this
   obtain ⟨s',hC',hK⟩:=hh
   exact ⟨s',hC',.inr ⟨by rw [wi];exact hw,by rw [← cm];exact hK⟩⟩
  ·rw [wj] at hwj
   exact .inl ⟨hwj,.inr ⟨hm2,u,sj u undef hu,.inr ⟨by rw [wi];exact hw,by rw [← cm];exact hK⟩⟩⟩
  ·rw [wj] at hwj
   exact .inr ⟨hwj,.inr ⟨by rw [wi];exact hw,by rw [← cm];exact hK⟩⟩
def Pre (ops:Array Oper) (listed:Array Bool):Prop:=∀ i j oi oj,ops[i]? = some oi → ops[j]? = some oj → mv oi = true → mv oj = true → i < j → listed.getD j false = true → listed.getD i false = true
theorem getD_both {listed:Array Bool} {i:Nat} (h:listed.getD i true = false):listed.getD i false = false:=by
 rcases Nat.lt_or_ge i listed.size with h' | h'
 ·simp [h'] at h ⊢;exact h
 ·simp [Array.getElem?_eq_none h']
theorem Pre.next (hch:chainB md ops = true) {listed:Array Bool} (h:Pre ops listed) {j:Nat} (hj:j ∈ Region.ready md ops listed):Pre ops (listed.setIfInBounds j true):=by
 intro i m oi om hi hm ci cm him hl
 obtain ⟨hun,oj,hoj,hall⟩:=mem_ready.1 hj
 by_cases hmj:j = m
 ·subst hmj
  rw [hoj] at hm;cases hm
  obtain ⟨p,op,hip,hpj,hp,cp,e,he,hb,heq⟩:=chainB_spec hch hi hoj ci cm him
  have hp':=hall e he hb
  rw [heq] at hp'
  refine getD_set_true ?_
  by_cases hpi:i = p
  ·subst hpi;exact hp'
  ·exact h i p oi op hi hp ci cp (by omega) hp'
 ·rw [getD_set_ne false hmj] at hl
  exact getD_set_true (h i m oi om hi hm ci cm him hl)
def wpLin (P:Program) (ops:Array Oper) (C:σ → World → Prop) (Q:σ → Act → Prop):List Oper → σ → Act → Prop
 | [],s,a => Q s a
 | o :: rest,s,a => LX P ops C o a s (wpLin P ops C Q rest)
/-! ### Steps of the walk -/
theorem v_no_enter (s:Sem Value) (w:World) (f:FuncId) (args:Array Value) (w':World):(do pure (.value (← s)):Sem Next).run P w ≠ .ok (.enter f args) w':=by
 rw [Sem.run_bind]
 cases s.run P w <;> simp [Result.andThen,Sem.run_pure]
theorem plain_no_enter {o:Oper} (ho:plainOp o = true) (a:Act) (w:World) (f:FuncId) (args:Array Value) (w':World):(execOp a.eval o).run P w ≠ .ok (.enter f args) w':=by
 unfold plainOp at ho
 unfold execOp
 split at ho
 case h_3 c x y hop =>
  simp only [hop]
  rw [Sem.run_bind]
  cases (asBool (a.eval c)).run P w <;> simp [Result.andThen,Sem.run_pure]
 case h_15 => cases ho
 all_goals
  rename_i hop
  simp only [hop]
  first | exact v_no_enter _ w f args w' | (rw [Sem.run_pure];intro h;cases h)
theorem wpLin_nil {Q:σ → Act → Prop} {s:σ} {a:Act} (h:Q s a):wpLin P ops C Q [] s a:=h
theorem lin_seg {Q:σ → Act → Prop} {s:σ}:∀ (seg rest:List Oper) (a:Act),seg.all plainOp = true →
  wpQuiet P ops (fun w' => ∃ x:InW (fun w => ∃ s,C s w),w' = x.W) (fun a' => wpLin P ops C Q rest s a') seg a → wpLin P ops C Q (seg ++ rest) s a
 | [],rest,a,_,h => h
 | o :: seg,rest,a,hp,h => by
  rw [List.all_cons,Bool.and_eq_true] at hp
  obtain ⟨hpl,hp'⟩:=hp
  have hnc:mv o = false:=by unfold mv;rw [hpl];rfl
  unfold wpQuiet at h
  by_cases hw:Region.wanted o (yielded ops a.tmps) = true
  ·rw [if_pos hw] at h
   obtain ⟨v,h1,h2⟩:=h
   refine .inl ⟨hw,.inr ⟨hnc,v,fun w hC => ?_,lin_seg seg rest _ hp' h2⟩⟩
   have h3:=h1 w ⟨⟨w,hC⟩,rfl⟩
   unfold Oper.quietAt at h3
   have h4:=fun f args w' => plain_no_enter (P:=P) hpl a w f args w'
   generalize (execOp a.eval o).run P w = r at *
   cases r with
   | ok n w' =>
    cases n <;> simp only [Oper.quietUpon] at h3 <;> simp only [stillUpon]
    ·exact h3
    ·exact h3
    ·exact (h4 _ _ _ rfl).elim
   | halt x w' => simp only [Oper.quietUpon] at h3
  ·rw [if_neg hw] at h
   exact .inr ⟨by simpa using hw,lin_seg seg rest _ hp' h⟩
theorem lin_take {Q:σ → Act → Prop} {s:σ} (n:Nat) {l:List Oper} {a:Act} (hp:(l.take n).all plainOp = true)
  (h:wpQuiet P ops (fun w' => ∃ x:InW (fun w => ∃ s,C s w),w' = x.W) (fun a' => wpLin P ops C Q (l.drop n) s a') (l.take n) a):wpLin P ops C Q l s a:=by
 have:=lin_seg (l.take n) (l.drop n) a hp h
 rwa [List.take_append_drop] at this
theorem lin_move {Q:σ → Act → Prop} {s:σ} {o:Oper} {rest:List Oper} {a:Act} (hw:Region.wanted o (yielded ops a.tmps) = true) (hm:mv o = true)
  (h:∀ w,C s w → movesUpon P (fun v w' => ∃ s',C s' w' ∧ wpLin P ops C Q rest s' (a.put o.dst v)) ((execOp a.eval o).run P w)):wpLin P ops C Q (o :: rest) s a:=.inl ⟨hw,.inl ⟨hm,h⟩⟩
theorem frame {Q:σ → Act → Prop} {l:List Oper} {s:σ} {a a':Act} (e:a = a') (h:wpLin P ops C Q l s a'):wpLin P ops C Q l s a:=e ▸ h
theorem lin_run {Q:σ → Act → Prop} {s:σ} {o:Oper} {rest:List Oper} {a:Act} (hw:Region.wanted o (yielded ops a.tmps) = true) (hm:mv o = true)
  (h:∀ w,C s w → ∃ v w' s',(execOp a.eval o).run P w = .ok (.value v) w' ∧ C s' w' ∧ wpLin P ops C Q rest s' (a.put o.dst v)):wpLin P ops C Q (o :: rest) s a :=
 lin_move hw hm fun w hC => by
  obtain ⟨v,w',s',h1,h2,h3⟩:=h w hC
  rw [h1];exact ⟨s',h2,h3⟩
theorem lin_build {Q:σ → Act → Prop} {s:σ} {o:Oper} {rest:List Oper} {a:Act} (hw:Region.wanted o (yielded ops a.tmps) = true) (t:TypeId) (n:Nat) (xs:Array (Nat × Operand)) (ho:o.op = .buildSlice t n xs)
  (h:∀ w,C s w → ∃ v w' s',(Instr.buildSlice t n (xs.map fun (i,x) => (i,a.eval x))).run P w = .ok v w' ∧ C s' w' ∧ wpLin P ops C Q rest s' (a.put o.dst v)):wpLin P ops C Q (o :: rest) s a:=by
 refine lin_run hw (by unfold mv plainOp;rw [ho];rfl) fun w hC => ?_
 obtain ⟨v,w',s',h1,h2,h3⟩:=h w hC
 refine ⟨v,w',s',?_,h2,h3⟩
 unfold execOp
 simp only [ho,Sem.run_bind,h1,Result.andThen_ok,Sem.run_pure]
theorem lin_build1 {Q:σ → Act → Prop} {s:σ} {o:Oper} {rest:List Oper} {a:Act} (hw:Region.wanted o (yielded ops a.tmps) = true) (t:TypeId) (n i:Nat) (x:Operand) (ho:o.op = .buildSlice t n #[(i,x)])
  (h:∀ w,C s w → ∃ v w' s',(Instr.buildSlice t n #[(i,a.eval x)]).run P w = .ok v w' ∧ C s' w' ∧ wpLin P ops C Q rest s' (a.put o.dst v)):wpLin P ops C Q (o :: rest) s a :=
 lin_build hw t n #[(i,x)] ho (by simpa using h)
theorem lin_append {Q:σ → Act → Prop} {s:σ} {o:Oper} {rest:List Oper} {a:Act} (hw:Region.wanted o (yielded ops a.tmps) = true) (y x:Operand) (t:TypeId)
  (ho:o.op = .call { callee:=.builtin .append,args:=#[y,x],argTypes:=#[t,t] })
  (h:∀ w,C s w → ∃ v w' s',(Builtin.append_ #[t,t] o.type #[a.eval y,a.eval x]).run P w = .ok v w' ∧ C s' w' ∧ wpLin P ops C Q rest s' (a.put o.dst v)):wpLin P ops C Q (o :: rest) s a:=by
 refine lin_run hw (by unfold mv plainOp;rw [ho];rfl) fun w hC => ?_
 obtain ⟨v,w',s',h1,h2,h3⟩:=h w hC
 refine ⟨v,w',s',?_,h2,h3⟩
 unfold execOp
 simp only [ho,resolve,invoke,builtin,Sem.run_bind,Sem.run_pure,Result.andThen_ok,List.map_toArray,List.map_cons,List.map_nil,h1]
theorem calls_some (f:FuncId) (args:Array Value) (w:World) (R:Ending → World → Prop) (h:Calls P f args w R):∃ e w',R e w':=by
 obtain ⟨e,w',_,hR,_⟩:=h []
 exact ⟨e,w',hR⟩
end
end Go.Proofs.YtphamecphmbipaaGreatDoor.Mv
