/- Texts of this claim, merged by a program (a claim may have 60 files): Region, Move, Inv, RPutY, WPuts. -/
import Derived.Deep.QuietTactic
import Derived.BigQuiet
import Derived.WalkKit
import Derived.Deep.MidRow
import Derived.Test.YtphamecphmbipaaGreatDoorK04
import Derived.Deep.RegionWith
namespace Go.Proofs.YtphamecphmbipaaGreatDoor
open Go.RowKit
set_option linter.unusedVariables false
variable {P:Program}
structure InW (S:World → Prop) where
 W:World
 h:S W
def InS (S:World → Prop) (w':World):Prop:=∃ s:InW S,w' = s.W
theorem InS.out {S:World → Prop} {w:World} (h:InS S w):S w:=by obtain ⟨s,rfl⟩:=h;exact s.h
theorem wp_region_S (S:World → Prop) {id:Nat} {Q:Exit → Act → World → Prop} {a:Act} {w:World} {l:List Oper} (hm:P.follows .mixedOrders = true) (hB:Region.lexB .any l.toArray = true) (hS:S { w with drawn:=w.drawn + 1 })
  (h:Nonempty (InW S) → wpQuiet P l.toArray (fun w' => ∃ s:InW S,w' = s.W) (fun a' => ∀ w',InS S w' → Q .normal a' w') l a):(Code.region id l.toArray true).wp P Q a w :=
 wp_region_quiet (C:=fun w' => ∃ s:InW S,w' = s.W) hm hB ⟨⟨_,hS⟩,rfl⟩ (h ⟨⟨_,hS⟩⟩)
theorem q_call {S:World → Prop} {f:FuncId} {args:Array Value} {v:Value} (s:InW S) (h:∀ W,S W → Calls P f args W fun e w' => e = .returned v ∧ S w'):Calls P f args s.W fun e w' => e = .returned v ∧ ∃ s':InW S,w' = s'.W :=
 (h s.W s.h).mono fun e w' hh => ⟨hh.1,⟨w',hh.2⟩,rfl⟩
theorem q_load {S:World → Prop} {ops:Array Oper} {Q:Act → Prop} {a:Act} {o:Oper} {rest:List Oper} (hw:Region.wanted o (yielded ops a.tmps) = true) (ty:TypeId) (x:Operand) (ho:o.op = .load ty x)
  (b off:Nat) (hx:a.eval x = .pointer (some ⟨b,off,none⟩)) (cs:List Value) (d:TypeDesc) (hS:∀ w,S w → w.rangeAt b off cs)
  (hu:P.underlying ty = some d) (hd:d.isRow = true) (hi:(P.info? ty).map (·.size) = some cs.length)
  (h:wpQuiet P ops (fun w' => ∃ s:InW S,w' = s.W) Q rest (a.put o.dst (.agg cs.toArray))):wpQuiet P ops (fun w' => ∃ s:InW S,w' = s.W) Q (o :: rest) a:=by
 refine wpQuiet_step fun K hK => ?_
 rw [if_pos hw]
 refine ⟨.agg cs.toArray,fun w hw' => ?_,hK _ h⟩
 obtain ⟨s,rfl⟩:=hw'
 unfold Oper.quietAt execOp
 simp only [ho,hx,Instr.loadAt,Instr.sureAddr,Sem.run_bind,Sem.run_pure,Result.andThen_ok,run_loadVar_mid s.W b off ty cs d (hS s.W s.h) hu hd hi]
 exact ⟨rfl,rfl⟩
theorem wpQuiet_frame {ops:Array Oper} {C:World → Prop} {Q:Act → Prop} {l:List Oper} {a a':Act} (e:a = a') (h:wpQuiet P ops C Q l a'):wpQuiet P ops C Q l a:=e ▸ h
end Go.Proofs.YtphamecphmbipaaGreatDoor

namespace Go.Proofs.YtphamecphmbipaaGreatDoor.Mv
open Go.RowKit Go.Proofs.YtphamecphmbipaaGreatDoor
set_option linter.unusedVariables false
structure St where
 n:Nat
 v:Value
def plainOp (o:Oper):Bool:=match o.op with | .move _ | .assign _ | .pick _ _ _ | .build _ _ | .load _ _ | .binOp _ _ _ _ _ | .unOp _ _ _ | .convert _ _ _ | .fieldAddr _ _ _ | .field _ _ _ | .indexAddr _ _ _ | .index _ _ _ | .extract _ _ | .slice _ _ _ _ _ => true | _ => false
def mv (o:Oper):Bool:=!plainOp o
def chainB (md:Region.Mode) (ops:Array Oper):Bool :=
 (List.range ops.size).all fun j => (List.range j).all fun i => match ops[j]?,ops[i]? with
  | some oj,some oi => !(mv oi && mv oj) || (List.range j).any fun p => decide (i ≤ p) && ((ops[p]?).map mv).getD false && oj.after.any fun e => Region.binds md e && e.on == p
  | _,_ => true
section
variable {P:Program} {ops:Array Oper} {md:Region.Mode} {σ:Type} {C:σ → World → Prop}
theorem chainB_spec (h:chainB md ops = true) {i j:Nat} {oi oj:Oper} (hi:ops[i]? = some oi) (hj:ops[j]? = some oj) (ci:mv oi = true) (cj:mv oj = true) (hij:i < j) :
  ∃ p op,i ≤ p ∧ p < j ∧ ops[p]? = some op ∧ mv op = true ∧ ∃ e ∈ oj.after,Region.binds md e = true ∧ e.on = p:=by
 unfold chainB at h
 rw [List.all_eq_true] at h
 have h1:=h j (List.mem_range.2 (Array.getElem?_eq_some_iff.1 hj).1)
 rw [List.all_eq_true] at h1
 have h2:=h1 i (List.mem_range.2 hij)
 rw [hi,hj] at h2
 simp only [ci,cj,Bool.and_true,Bool.not_true,Bool.false_or,List.any_eq_true,Bool.and_eq_true,decide_eq_true_eq] at h2
 obtain ⟨p,hp,⟨hip,hc⟩,hany⟩:=h2
 rw [Array.any_eq_true'] at hany
 obtain ⟨e,he,hb⟩:=hany
 rw [Bool.and_eq_true,beq_iff_eq] at hb
 cases ho:ops[p]? with
 | none => rw [ho] at hc;cases hc
 | some op => rw [ho] at hc;exact ⟨p,op,hip,List.mem_range.1 hp,ho,by simpa using hc,e,he,hb.1,hb.2⟩
def stillUpon (w:World) (v:Value):Result Next → Prop
 | .ok (.value u) w' => w' = w ∧ u = v
 | .ok .skip w' => w' = w ∧ v = undef
 | _ => False
def movesUpon (P:Program) (R:Value → World → Prop):Result Next → Prop
 | .ok (.value u) w' => R u w'
 | .ok .skip w' => R undef w'
 | .ok (.enter f args) w' => Calls P f args w' fun e w'' => ∃ v,e = .returned v ∧ R v w''
 | _ => False
theorem movesUpon_mono {R R':Value → World → Prop} (h:∀ v w,R v w → R' v w) {r:Result Next} (hr:movesUpon P R r):movesUpon P R' r:=by
 unfold movesUpon at *
 split at hr
 ·exact h _ _ hr
 ·exact h _ _ hr
 ·exact hr.mono fun e w' hh => by obtain ⟨v,he,hR⟩:=hh;exact ⟨v,he,h _ _ hR⟩
 ·exact hr
theorem movesUpon_some {R:Value → World → Prop} {r:Result Next} (hr:movesUpon P R r) (hex:∀ f args w (R':Ending → World → Prop),Calls P f args w R' → ∃ e w',R' e w'):∃ v w,R v w:=by
 unfold movesUpon at hr
 split at hr
 ·exact ⟨_,_,hr⟩
 ·exact ⟨_,_,hr⟩
 ·obtain ⟨e,w',v,_,hR⟩:=hex _ _ _ _ hr;exact ⟨v,w',hR⟩
 ·exact hr.elim
def stillIn (P:Program) (C:σ → World → Prop) (o:Oper) (a:Act) (v:Value):Prop:=∀ w,(∃ s,C s w) → stillUpon w v ((execOp a.eval o).run P w)
def moveIn (P:Program) (C:σ → World → Prop) (s:σ) (o:Oper) (a:Act) (K:σ → Value → Prop):Prop:=∀ w,C s w → movesUpon P (fun v w' => ∃ s',C s' w' ∧ K s' v) ((execOp a.eval o).run P w)
def LX (P:Program) (ops:Array Oper) (C:σ → World → Prop) (o:Oper) (a:Act) (s:σ) (K:σ → Act → Prop):Prop :=
 (Region.wanted o (yielded ops a.tmps) = true ∧ ((mv o = true ∧ moveIn P C s o a (fun s' v => K s' (a.put o.dst v))) ∨ (mv o = false ∧ ∃ v,stillIn P C o a v ∧ K s (a.put o.dst v)))) ∨
 (Region.wanted o (yielded ops a.tmps) = false ∧ K s (a.put o.dst undef))
theorem stillIn_one {o:Oper} {a:Act} {u v:Value} {s:σ} {w:World} (hC:C s w) (h:stillIn P C o a u) (k:stillIn P C o a v):u = v:=by
 have h1:=h w ⟨s,hC⟩
 have h2:=k w ⟨s,hC⟩
 generalize (execOp a.eval o).run P w = r at *
 cases r with
 | ok n w' =>
  cases n <;> simp only [stillUpon] at h1 h2
  ·exact h1.2.symm.trans h2.2
  ·exact h1.2.trans h2.2.symm
 | halt x w' => simp only [stillUpon] at h1
def linOp (P:Program) (ops:Array Oper) (C:σ → World → Prop) (i:Nat) (K:σ → Act → Prop) (s:σ) (a:Act):Prop :=
 match ops[i]? with
 | none => K s a
 | some o => LX P ops C o a s K
def wpAnyL (P:Program) (md:Region.Mode) (ops:Array Oper) (C:σ → World → Prop) (Q:σ → Act → Prop):Nat → Array Bool → σ → Act → Prop
 | 0,listed,s,a => Region.ready md ops listed = [] ∧ Q s a
 | fuel + 1,listed,s,a => (Region.ready md ops listed = [] → Q s a) ∧ ∀ i ∈ Region.ready md ops listed,linOp P ops C i (wpAnyL P md ops C Q fuel (listed.setIfInBounds i true)) s a
def NE (C:σ → World → Prop) (s:σ):Prop:=∃ w,C s w
theorem LX.mono {o:Oper} {a:Act} {s:σ} {K K':σ → Act → Prop} (hs:NE C s) (h:∀ s a,NE C s → K s a → K' s a) (hh:LX P ops C o a s K):LX P ops C o a s K':=by
 rcases hh with ⟨hw,⟨hm,hk⟩ | ⟨hm,v,hv,hk⟩⟩ | ⟨hw,hk⟩
 ·exact .inl ⟨hw,.inl ⟨hm,fun w hC => movesUpon_mono (fun v w' hh => by obtain ⟨s',h1,h2⟩:=hh;exact ⟨s',h1,h _ _ ⟨_,h1⟩ h2⟩) (hk w hC)⟩⟩
 ·exact .inl ⟨hw,.inr ⟨hm,v,hv,h _ _ hs hk⟩⟩
 ·exact .inr ⟨hw,h _ _ hs hk⟩
theorem linOp_mono {i:Nat} {s:σ} {a:Act} {K K':σ → Act → Prop} (hs:NE C s) (h:∀ s a,NE C s → K s a → K' s a) (hh:linOp P ops C i K s a):linOp P ops C i K' s a:=by
 unfold linOp at *
 cases ho:ops[i]? with
 | none => rw [ho] at hh;exact h _ _ hs hh
 | some o => rw [ho] at hh;exact LX.mono hs h hh
theorem wpOp_of_lin {i:Nat} {s:σ} {a:Act} {K:σ → Act → Prop} {K':Act → World → Prop} {Q':Exit → Act → World → Prop} {w:World} (hC:C s w) (h:∀ s a w',C s w' → K s a → K' a w') (hh:linOp P ops C i K s a):wpOp P ops Q' i K' a w:=by
 unfold linOp at hh
 unfold wpOp
 split
 ·rename_i ho;simp only [ho] at hh;exact h _ _ _ hC hh
 ·rename_i o ho
  simp only [ho] at hh
  rcases hh with ⟨hw,hy⟩ | ⟨hw,hk⟩
  ·simp only [hw,if_true]
   refine .inl ?_
   unfold Oper.wp
   rcases hy with ⟨_,hk⟩ | ⟨_,v,hs,hk⟩
   ·have h3:=hk w hC
    generalize (execOp a.eval o).run P w = r at *
    cases r with
    | ok n w' =>
     cases n <;> simp only [movesUpon] at h3 <;> simp only [Oper.upon]
     ·obtain ⟨s',h4,h5⟩:=h3;exact h _ _ _ h4 h5
     ·obtain ⟨s',h4,h5⟩:=h3;exact h _ _ _ h4 h5
     ·exact h3.mono fun e w'' ⟨v,he,s',h4,h5⟩ => by subst he;exact h _ _ _ h4 h5
    | halt x w' => simp only [movesUpon] at h3
   ·have h3:=hs w ⟨_,hC⟩
    generalize (execOp a.eval o).run P w = r at *
    cases r with
    | ok n w' =>
     cases n <;> simp only [stillUpon] at h3 <;> simp only [Oper.upon]
     ·obtain ⟨rfl,rfl⟩:=h3;exact h _ _ _ hC hk
     ·obtain ⟨rfl,rfl⟩:=h3;exact h _ _ _ hC hk
    | halt x w' => simp only [stillUpon] at h3
  ·simp only [hw];exact h _ _ _ hC hk
theorem wpAny_of_lin {Q:σ → Act → Prop} {Q':Exit → Act → World → Prop} (hQ:∀ s a w,C s w → Q s a → Q' .normal a w):∀ (fuel:Nat) (listed:Array Bool) (s:σ) (a:Act) (w:World),C s w →
  wpAnyL P md ops C Q fuel listed s a → wpAny P md ops Q' fuel listed a w
 | 0,_,_,_,_,hw,h => ⟨h.1,hQ _ _ _ hw h.2⟩
 | fuel + 1,_,_,_,_,hw,h => ⟨fun h0 => hQ _ _ _ hw (h.1 h0),fun i hi => wpOp_of_lin hw (fun s' a' w' hw' => wpAny_of_lin hQ fuel _ s' a' w' hw') (h.2 i hi)⟩
theorem LX.linOp {i:Nat} {s:σ} {o:Oper} {a:Act} (hi:ops[i]? = some o) {K:σ → Act → Prop} (h:LX P ops C o a s K):linOp P ops C i K s a:=by
 unfold Mv.linOp
 simp only [hi]
 exact h
theorem linOp_put (hex:∀ f args w (R':Ending → World → Prop),Calls P f args w R' → ∃ e w',R' e w') {j:Nat} {oi oj:Oper} (hj:ops[j]? = some oj) (hap:oi.apart ops oj = true)
  (hsi:∀ cs b,oi.op ≠ .select cs b) (hsj:∀ cs b,oj.op ≠ .select cs b) (hcc:mv oi = false ∨ mv oj = false) {K:σ → Act → Prop} {a:Act} {s:σ} (hne:NE C s)
  (h:LX P ops C oi a s (fun s1 a1 => linOp P ops C j K s1 a1)):linOp P ops C j (fun s' a' => LX P ops C oi a' s' K) s a:=by
 obtain ⟨h1,h2,h3⟩:=Oper.apart_spec hap
 have ei:∀ u:Value,execOp (a.put oj.dst u).eval oi = execOp a.eval oi:=fun u => execOp_put oi hsi a oj.dst u h3
 have wi:∀ u:Value,Region.wanted oi (yielded ops (a.put oj.dst u).tmps) = Region.wanted oi (yielded ops a.tmps):=fun u => wanted_put oi a oj.dst u h3
 have ej:∀ v:Value,execOp (a.put oi.dst v).eval oj = execOp a.eval oj:=fun v => execOp_put oj hsj a oi.dst v h1
 have wj:∀ v:Value,Region.wanted oj (yielded ops (a.put oi.dst v).tmps) = Region.wanted oj (yielded ops a.tmps):=fun v => wanted_put oj a oi.dst v h1
 have cm:∀ u v:Value,(a.put oi.dst v).put oj.dst u = (a.put oj.dst u).put oi.dst v:=fun u v => Act.put_comm a v u h2
 have sj:∀ u v:Value,stillIn P C oj (a.put oi.dst v) u → stillIn P C oj a u:=fun u v hs => by unfold stillIn at *;rw [ej] at hs;exact hs
 have si:∀ u v:Value,stillIn P C oi a v → stillIn P C oi (a.put oj.dst u) v:=fun u v hs => by unfold stillIn at *;rw [ei];exact hs
 unfold Mv.linOp at *
 simp only [hj] at *
 obtain ⟨w0,hC0⟩:=hne
 rcases h with ⟨hw,⟨hm,hk⟩ | ⟨hm,v,hv,hk⟩⟩ | ⟨hw,hk⟩
 ·
  have hmj:mv oj = false:=by
   rcases hcc with h | h
   ·rw [hm] at h;cases h
   ·exact h
  obtain ⟨v0,w0',s0',hC0',hL0⟩:=movesUpon_some (hk w0 hC0) hex
  rcases hL0 with ⟨hwj,⟨hm2,_⟩ | ⟨_,u,hu,_⟩⟩ | ⟨hwj,_⟩
  ·rw [hmj] at hm2;cases hm2
  ·rw [wj] at hwj
   have hu':=sj u v0 hu
   refine .inl ⟨hwj,.inr ⟨hmj,u,hu',.inl ⟨by rw [wi];exact hw,.inl ⟨hm,fun w hC => ?_⟩⟩⟩⟩
   rw [ei]
   refine movesUpon_mono (fun v w' hh => ?_) (hk w hC)
   obtain ⟨s',hC',hL⟩:=hh
   refine ⟨s',hC',?_⟩
   rcases hL with ⟨hwj2,⟨hm2,_⟩ | ⟨_,u2,hu2,hK2⟩⟩ | ⟨hwj2,_⟩
   ·rw [hmj] at hm2;cases hm2
   ·have:u2 = u:=stillIn_one hC (sj u2 v hu2) hu'
    subst this
    rw [← cm];exact hK2
   ·rw [wj,hwj] at hwj2;cases hwj2
  ·rw [wj] at hwj
   refine .inr ⟨hwj,.inl ⟨by rw [wi];exact hw,.inl ⟨hm,fun w hC => ?_⟩⟩⟩
   rw [ei]
   refine movesUpon_mono (fun v w' hh => ?_) (hk w hC)
   obtain ⟨s',hC',hL⟩:=hh
   refine ⟨s',hC',?_⟩
   rcases hL with ⟨hwj2,_⟩ | ⟨_,hK2⟩
   ·rw [wj,hwj] at hwj2;cases hwj2
   ·rw [← cm];exact hK2
 ·
  rcases hk with ⟨hwj,⟨hm2,hk2⟩ | ⟨hm2,u,hu,hK⟩⟩ | ⟨hwj,hK⟩
  ·rw [wj] at hwj
   refine .inl ⟨hwj,.inl ⟨hm2,fun w hC => ?_⟩⟩
   have:=hk2 w hC
   rw [ej] at this
   refine movesUpon_mono (fun u w' hh => ?_) this
   obtain ⟨s',hC',hK⟩:=hh
   exact ⟨s',hC',.inl ⟨by rw [wi];exact hw,.inr ⟨hm,v,si u v hv,by rw [← cm];exact hK⟩⟩⟩
  ·rw [wj] at hwj
   exact .inl ⟨hwj,.inr ⟨hm2,u,sj u v hu,.inl ⟨by rw [wi];exact hw,.inr ⟨hm,v,si u v hv,by rw [← cm];exact hK⟩⟩⟩⟩
  ·rw [wj] at hwj
   exact .inr ⟨hwj,.inl ⟨by rw [wi];exact hw,.inr ⟨hm,v,si undef v hv,by rw [← cm];exact hK⟩⟩⟩
 ·
  rcases hk with ⟨hwj,⟨hm2,hk2⟩ | ⟨hm2,u,hu,hK⟩⟩ | ⟨hwj,hK⟩
  ·rw [wj] at hwj
   refine .inl ⟨hwj,.inl ⟨hm2,fun w hC => ?_⟩⟩
   have:=hk2 w hC
   rw [ej] at this
   refine movesUpon_mono (fun u w' hh => ?_) this
   obtain ⟨s',hC',hK⟩:=hh
   exact ⟨s',hC',.inr ⟨by rw [wi];exact hw,by rw [← cm];exact hK⟩⟩
  ·rw [wj] at hwj
   exact .inl ⟨hwj,.inr ⟨hm2,u,sj u undef hu,.inr ⟨by rw [wi];exact hw,by rw [← cm];exact hK⟩⟩⟩
  ·rw [wj] at hwj
   exact .inr ⟨hwj,.inr ⟨by rw [wi];exact hw,by rw [← cm];exact hK⟩⟩
def Pre (ops:Array Oper) (listed:Array Bool):Prop:=∀ i j oi oj,ops[i]? = some oi → ops[j]? = some oj → mv oi = true → mv oj = true → i < j → listed.getD j false = true → listed.getD i false = true
theorem getD_both {listed:Array Bool} {i:Nat} (h:listed.getD i true = false):listed.getD i false = false:=by
 rcases Nat.lt_or_ge i listed.size with h' | h'
 ·simp [h'] at h ⊢;exact h
 ·simp [Array.getElem?_eq_none h']
theorem Pre.next (hch:chainB md ops = true) {listed:Array Bool} (h:Pre ops listed) {j:Nat} (hj:j ∈ Region.ready md ops listed):Pre ops (listed.setIfInBounds j true):=by
 intro i m oi om hi hm ci cm him hl
 obtain ⟨hun,oj,hoj,hall⟩:=mem_ready.1 hj
 by_cases hmj:j = m
 ·subst hmj
  rw [hoj] at hm;cases hm
  obtain ⟨p,op,hip,hpj,hp,cp,e,he,hb,heq⟩:=chainB_spec hch hi hoj ci cm him
  have hp':=hall e he hb
  rw [heq] at hp'
  refine getD_set_true ?_
  by_cases hpi:i = p
  ·subst hpi;exact hp'
  ·exact h i p oi op hi hp ci cp (by omega) hp'
 ·rw [getD_set_ne false hmj] at hl
  exact getD_set_true (h i m oi om hi hm ci cm him hl)
def wpLin (P:Program) (ops:Array Oper) (C:σ → World → Prop) (Q:σ → Act → Prop):List Oper → σ → Act → Prop
 | [],s,a => Q s a
 | o :: rest,s,a => LX P ops C o a s (wpLin P ops C Q rest)
/-! ### Steps of the walk -/
theorem v_no_enter (s:Sem Value) (w:World) (f:FuncId) (args:Array Value) (w':World):(do pure (.value (← s)):Sem Next).run P w ≠ .ok (.enter f args) w':=by
 rw [Sem.run_bind]
 cases s.run P w <;> simp [Result.andThen,Sem.run_pure]
theorem plain_no_enter {o:Oper} (ho:plainOp o = true) (a:Act) (w:World) (f:FuncId) (args:Array Value) (w':World):(execOp a.eval o).run P w ≠ .ok (.enter f args) w':=by
 unfold plainOp at ho
 unfold execOp
 split at ho
 case h_3 c x y hop =>
  simp only [hop]
  rw [Sem.run_bind]
  cases (asBool (a.eval c)).run P w <;> simp [Result.andThen,Sem.run_pure]
 case h_15 => cases ho
 all_goals
  rename_i hop
  simp only [hop]
  first | exact v_no_enter _ w f args w' | (rw [Sem.run_pure];intro h;cases h)
theorem wpLin_nil {Q:σ → Act → Prop} {s:σ} {a:Act} (h:Q s a):wpLin P ops C Q [] s a:=h
theorem lin_seg {Q:σ → Act → Prop} {s:σ}:∀ (seg rest:List Oper) (a:Act),seg.all plainOp = true →
  wpQuiet P ops (fun w' => ∃ x:InW (fun w => ∃ s,C s w),w' = x.W) (fun a' => wpLin P ops C Q rest s a') seg a → wpLin P ops C Q (seg ++ rest) s a
 | [],rest,a,_,h => h
 | o :: seg,rest,a,hp,h => by
  rw [List.all_cons,Bool.and_eq_true] at hp
  obtain ⟨hpl,hp'⟩:=hp
  have hnc:mv o = false:=by unfold mv;rw [hpl];rfl
  unfold wpQuiet at h
  by_cases hw:Region.wanted o (yielded ops a.tmps) = true
  ·rw [if_pos hw] at h
   obtain ⟨v,h1,h2⟩:=h
   refine .inl ⟨hw,.inr ⟨hnc,v,fun w hC => ?_,lin_seg seg rest _ hp' h2⟩⟩
   have h3:=h1 w ⟨⟨w,hC⟩,rfl⟩
   unfold Oper.quietAt at h3
   have h4:=fun f args w' => plain_no_enter (P:=P) hpl a w f args w'
   generalize (execOp a.eval o).run P w = r at *
   cases r with
   | ok n w' =>
    cases n <;> simp only [Oper.quietUpon] at h3 <;> simp only [stillUpon]
    ·exact h3
    ·exact h3
    ·exact (h4 _ _ _ rfl).elim
   | halt x w' => simp only [Oper.quietUpon] at h3
  ·rw [if_neg hw] at h
   exact .inr ⟨by simpa using hw,lin_seg seg rest _ hp' h⟩
theorem lin_take {Q:σ → Act → Prop} {s:σ} (n:Nat) {l:List Oper} {a:Act} (hp:(l.take n).all plainOp = true)
  (h:wpQuiet P ops (fun w' => ∃ x:InW (fun w => ∃ s,C s w),w' = x.W) (fun a' => wpLin P ops C Q (l.drop n) s a') (l.take n) a):wpLin P ops C Q l s a:=by
 have:=lin_seg (l.take n) (l.drop n) a hp h
 rwa [List.take_append_drop] at this
theorem lin_move {Q:σ → Act → Prop} {s:σ} {o:Oper} {rest:List Oper} {a:Act} (hw:Region.wanted o (yielded ops a.tmps) = true) (hm:mv o = true)
  (h:∀ w,C s w → movesUpon P (fun v w' => ∃ s',C s' w' ∧ wpLin P ops C Q rest s' (a.put o.dst v)) ((execOp a.eval o).run P w)):wpLin P ops C Q (o :: rest) s a:=.inl ⟨hw,.inl ⟨hm,h⟩⟩
theorem frame {Q:σ → Act → Prop} {l:List Oper} {s:σ} {a a':Act} (e:a = a') (h:wpLin P ops C Q l s a'):wpLin P ops C Q l s a:=e ▸ h
theorem lin_run {Q:σ → Act → Prop} {s:σ} {o:Oper} {rest:List Oper} {a:Act} (hw:Region.wanted o (yielded ops a.tmps) = true) (hm:mv o = true)
  (h:∀ w,C s w → ∃ v w' s',(execOp a.eval o).run P w = .ok (.value v) w' ∧ C s' w' ∧ wpLin P ops C Q rest s' (a.put o.dst v)):wpLin P ops C Q (o :: rest) s a :=
 lin_move hw hm fun w hC => by
  obtain ⟨v,w',s',h1,h2,h3⟩:=h w hC
  rw [h1];exact ⟨s',h2,h3⟩
theorem lin_build {Q:σ → Act → Prop} {s:σ} {o:Oper} {rest:List Oper} {a:Act} (hw:Region.wanted o (yielded ops a.tmps) = true) (t:TypeId) (n:Nat) (xs:Array (Nat × Operand)) (ho:o.op = .buildSlice t n xs)
  (h:∀ w,C s w → ∃ v w' s',(Instr.buildSlice t n (xs.map fun (i,x) => (i,a.eval x))).run P w = .ok v w' ∧ C s' w' ∧ wpLin P ops C Q rest s' (a.put o.dst v)):wpLin P ops C Q (o :: rest) s a:=by
 refine lin_run hw (by unfold mv plainOp;rw [ho];rfl) fun w hC => ?_
 obtain ⟨v,w',s',h1,h2,h3⟩:=h w hC
 refine ⟨v,w',s',?_,h2,h3⟩
 unfold execOp
 simp only [ho,Sem.run_bind,h1,Result.andThen_ok,Sem.run_pure]
theorem lin_build1 {Q:σ → Act → Prop} {s:σ} {o:Oper} {rest:List Oper} {a:Act} (hw:Region.wanted o (yielded ops a.tmps) = true) (t:TypeId) (n i:Nat) (x:Operand) (ho:o.op = .buildSlice t n #[(i,x)])
  (h:∀ w,C s w → ∃ v w' s',(Instr.buildSlice t n #[(i,a.eval x)]).run P w = .ok v w' ∧ C s' w' ∧ wpLin P ops C Q rest s' (a.put o.dst v)):wpLin P ops C Q (o :: rest) s a :=
 lin_build hw t n #[(i,x)] ho (by simpa using h)
theorem lin_append {Q:σ → Act → Prop} {s:σ} {o:Oper} {rest:List Oper} {a:Act} (hw:Region.wanted o (yielded ops a.tmps) = true) (y x:Operand) (t:TypeId)
  (ho:o.op = .call { callee:=.builtin .append,args:=#[y,x],argTypes:=#[t,t] })
  (h:∀ w,C s w → ∃ v w' s',(Builtin.append_ #[t,t] o.type #[a.eval y,a.eval x]).run P w = .ok v w' ∧ C s' w' ∧ wpLin P ops C Q rest s' (a.put o.dst v)):wpLin P ops C Q (o :: rest) s a:=by
 refine lin_run hw (by unfold mv plainOp;rw [ho];rfl) fun w hC => ?_
 obtain ⟨v,w',s',h1,h2,h3⟩:=h w hC
 refine ⟨v,w',s',?_,h2,h3⟩
 unfold execOp
 simp only [ho,resolve,invoke,builtin,Sem.run_bind,Sem.run_pure,Result.andThen_ok,List.map_toArray,List.map_cons,List.map_nil,h1]
theorem calls_some (f:FuncId) (args:Array Value) (w:World) (R:Ending → World → Prop) (h:Calls P f args w R):∃ e w',R e w':=by
 obtain ⟨e,w',_,hR,_⟩:=h []
 exact ⟨e,w',hR⟩
end
end Go.Proofs.YtphamecphmbipaaGreatDoor.Mv

namespace Go.Proofs.YtphamecphmbipaaGreatDoor
open Go.RowKit
set_option linter.unusedVariables false
def downB (md:Region.Mode) (ops:Array Oper):Bool :=
 (List.range ops.size).all fun i => ((ops[i]?).map fun o => o.after.all fun e => !Region.binds md e || decide (e.on < i)).getD true
def upB (md:Region.Mode) (o:Oper) (l:Nat → Bool):Bool:=o.after.all fun e => !Region.binds md e || l e.on
section
variable {P:Program} {md:Region.Mode} {ops:Array Oper}
theorem downB_spec (h:downB md ops = true) {i:Nat} {o:Oper} (hi:ops[i]? = some o) {e:Edge} (he:e ∈ o.after) (hb:Region.binds md e = true):e.on < i:=by
 unfold downB at h
 rw [List.all_eq_true] at h
 have h1:=h i (List.mem_range.2 (Array.getElem?_eq_some_iff.1 hi).1)
 rw [hi] at h1
 simp only [Option.map_some,Option.getD_some] at h1
 rw [Array.all_eq_true'] at h1
 have h2:=h1 e he
 rw [hb] at h2
 simpa using h2
theorem ready_nil (h:downB md ops = true) {listed:Array Bool} (hs:listed.size = ops.size) (hr:Region.ready md ops listed = []):∀ i,i < ops.size → listed.getD i false = true:=by
 intro i
 induction i using Nat.strongRecOn with
 | _ i ih =>
  intro hi
  cases hl:listed.getD i false with
  | true => rfl
  | false =>
   exfalso
   have:i ∈ Region.ready md ops listed:=by
    refine mem_ready.2 ⟨?_,ops[i],Array.getElem?_eq_getElem hi,fun e he hb => ?_⟩
    ·rw [Array.getD_eq_getD_getElem?,Array.getElem?_eq_getElem (by omega)] at hl ⊢;simpa using hl
    ·have:=downB_spec h (Array.getElem?_eq_getElem hi) he hb
     exact ih _ this (by omega)
   rw [hr] at this
   cases this
def StepsI (P:Program) (md:Region.Mode) (ops:Array Oper) (Q:Exit → Act → World → Prop) (I:(Nat → Bool) → Act → World → Prop):Nat → List Oper → Prop
 | _,[] => True
 | n,o :: rest => (∀ l a w,l n = false → upB md o l = true → I l a w → wpOp P ops Q n (I (fun j => j == n || l j)) a w) ∧ StepsI P md ops Q I (n + 1) rest
theorem StepsI.get {Q:Exit → Act → World → Prop} {I:(Nat → Bool) → Act → World → Prop}:∀ (L:List Oper) (n i:Nat) (o:Oper),StepsI P md ops Q I n L → L[i]? = some o →
  ∀ l a w,l (n + i) = false → upB md o l = true → I l a w → wpOp P ops Q (n + i) (I (fun j => j == (n + i) || l j)) a w
 | [],_,_,_,_,h => by cases h
 | o' :: L,n,0,o,h,hi => by cases hi;exact h.1
 | o' :: L,n,i + 1,o,h,hi => by
  have:=StepsI.get L (n + 1) i o h.2 (by simpa using hi)
  rw [show n + 1 + i = n + (i + 1) by omega] at this
  exact this
theorem wpAny_inv {Q:Exit → Act → World → Prop} {I:(Nat → Bool) → Act → World → Prop} (hd:downB md ops = true) (hst:StepsI P md ops Q I 0 ops.toList)
  (hI:∀ l l' a w,(∀ i,i < ops.size → l i = l' i) → I l a w → I l' a w)
  (hend:∀ a w,I (fun _ => true) a w → Q .normal a w):∀ (fuel:Nat) (listed:Array Bool) (a:Act) (w:World),listed.size = ops.size → (listed.toList.filter (fun b => !b)).length = fuel →
   I (fun j => listed.getD j false) a w → wpAny P md ops Q fuel listed a w:=by
 have fin:∀ (listed:Array Bool) (a:Act) (w:World),listed.size = ops.size → Region.ready md ops listed = [] → I (fun j => listed.getD j false) a w → Q .normal a w:=fun listed a w hs hr h =>
  hend a w (hI _ _ a w (fun i hi => ready_nil hd hs hr i hi) h)
 intro fuel
 induction fuel with
 | zero =>
  intro listed a w hs hc h
  have hall:∀ b ∈ listed.toList,b = true:=by
   intro b hb
   cases b with
   | true => rfl
   | false =>
    have:false ∈ listed.toList.filter (fun b => !b):=List.mem_filter.2 ⟨hb,rfl⟩
    rw [List.length_eq_zero_iff.1 hc] at this
    cases this
  have hr:Region.ready md ops listed = []:=by
   cases hr:Region.ready md ops listed with
   | nil => rfl
   | cons i r =>
    have hi:i ∈ Region.ready md ops listed:=by rw [hr];simp
    obtain ⟨h1,o,ho,_⟩:=mem_ready.1 hi
    have hlt:i < listed.size:=by rw [hs];exact (Array.getElem?_eq_some_iff.1 ho).1
    rw [Array.getD_eq_getD_getElem?,Array.getElem?_eq_getElem hlt] at h1
    have:=hall listed[i] (by simp)
    simp [this] at h1
  exact ⟨hr,fin listed a w hs hr h⟩
 | succ fuel ih =>
  intro listed a w hs hc h
  refine ⟨fun hr => fin listed a w hs hr h,fun i hi => ?_⟩
  obtain ⟨h1,o,ho,hall⟩:=mem_ready.1 hi
  have hlt:i < listed.size:=by rw [hs];exact (Array.getElem?_eq_some_iff.1 ho).1
  have hli:listed[i] = false:=by rw [Array.getD_eq_getD_getElem?,Array.getElem?_eq_getElem hlt] at h1;simpa using h1
  have hstep:=StepsI.get ops.toList 0 i o hst (by simpa using ho) (fun j => listed.getD j false) a w (by rw [Nat.zero_add,Array.getD_eq_getD_getElem?,Array.getElem?_eq_getElem hlt];simpa using hli)
   (by
    unfold upB
    rw [Array.all_eq_true']
    intro e he
    cases hb:Region.binds md e with
    | false => rfl
    | true => simpa using hall e he hb) h
  rw [Nat.zero_add] at hstep
  refine wpOp_mono (fun a' w' h' => ?_) hstep
  refine ih _ a' w' (by simpa using hs) ?_ (hI _ _ a' w' (fun j hj => ?_) h')
  ·have key:∀ (L:List Bool) (i:Nat) (hi:i < L.length),L[i] = false → ((L.set i true).filter (fun b => !b)).length + 1 = (L.filter (fun b => !b)).length:=by
    intro L
    induction L with
    | nil => intro i hi;simp at hi
    | cons b L ihL =>
     intro i hi hb
     cases i with
     | zero => simp at hb;subst hb;simp
     | succ i =>
      have:=ihL i (by simpa using hi) (by simpa using hb)
      cases b <;> simp <;> omega
   have:=key listed.toList i (by simpa using hlt) (by simpa using hli)
   rw [hc] at this
   have e:(listed.setIfInBounds i true).toList = listed.toList.set i true:=by simp
   rw [e]
   omega
  ·by_cases hji:j = i
   ·subst hji
    simp [Array.getD_eq_getD_getElem?,hlt]
   ·simp only [Array.getD_eq_getD_getElem?,Array.getElem?_setIfInBounds_ne (Ne.symm hji),show (j == i) = false by simpa using hji,Bool.false_or]
theorem wp_region_inv (I:(Nat → Bool) → Act → World → Prop) {id:Nat} {Q:Exit → Act → World → Prop} {a:Act} {w:World} {L:List Oper} (hm:P.follows .mixedOrders = true) (hd:downB .any L.toArray = true)
  (hI:∀ l l' a w,(∀ i,i < L.length → l i = l' i) → I l a w → I l' a w) (h0:I (fun _ => false) a { w with drawn:=w.drawn + 1 }) (hst:StepsI P .any L.toArray Q I 0 L)
  (hend:∀ a w,I (fun _ => true) a w → Q .normal a w):(Code.region id L.toArray true).wp P Q a w:=by
 refine wp_region_any hm (wpAny_inv (I:=I) hd (by simpa using hst) (by simpa using hI) hend _ _ a _ (by simp) (by simp) (hI _ _ _ _ (fun i hi => ?_) h0))
 simp [Array.getD_eq_getD_getElem?,hi]
end
set_option maxRecDepth 100000 in
set_option maxHeartbeats 4000000 in
theorem rput_yes (z:Nat → Int) (hz:Byt z) (a:Int) (x:Ino) (hx:x.Ok) (w:World) (hok:putOk a x = true) :
  Calls Tryz.prog 63 #[bval z,.int .i64 a,x.val] w fun e w' => e = .returned (.tuple #[bval (over z a.toNat 64 x.byte),.int .i64 0]) ∧ Below w.heap.size w w':=by
 unfold putOk at hok
 rw [Bool.and_eq_true] at hok
 obtain ⟨hp,hm⟩:=hok
 have hpl:=(placeB_iff a).1 hp
 have hmay:x.May:=of_decide_eq_true hm
 obtain ⟨hsz,hlk,hkd⟩:=Ino.may_bd hmay
 have HP:=Lib.hid hp
 have HM:=Lib.hid hm
 have ha0:0 ≤ a:=by omega
 have ha1:a ≤ 192:=by omega
 clear hp hm hpl
 obtain ⟨i,rfl⟩:=Int.eq_ofNat_of_zero_le ha0
 obtain ⟨hl0,hl1⟩:=hlk
 obtain ⟨hs0,hs1⟩:=hsz
 have hsa:=fun g W => run_sliceBlkAll g 0 W
 have hal:=zero_block
 go_enter Tryz.func63,Tryz.ntmps63
 go_wp2_with fail
 refine ((rplace_any (i:Int) _).mono (R':=fun e w' => e = .returned (.bool (placeB (i:Int))) ∧ RPutFr w z x w') (fun e w' h => ⟨h.1,h.2 ▸ rputFr_start w z x⟩)).mono ?_
 rintro e w1 ⟨rfl,hf⟩
 rw [HP.out]
 clear hal
 have hi:Hid (w1.heap[w.heap.size + 1]? = some (.cells x.arr 63 (0,0))):=hf.i
 go_wp2_with (first | (refine wpList_load_row rfl 63 (.tmp 5) rfl (w.heap.size + 1) rfl 63 x.arr (0,0) _ hi.out Tryz.underlying63 rfl (by kernel_rfl) ?_))
 refine (rmay_any x hx _).mono ?_
 rintro e w2 ⟨rfl,hb2⟩
 rw [HM.out]
 have hk1:w.heap.size + 1 + 1 < w1.heap.size:=hf.r.lt
 have hB2:Blk w2 w.heap.size 32 256 z:=hf.b.below hb2 (by omega)
 have hR2:Blk w2 (w.heap.size + 1 + 1) 32 256 (fun _ => 0):=hf.r.below hb2 hk1
 have hI2:InoAt w2 (w.heap.size + 1) 63 x:=hf.i.below hb2 (by omega)
 have hb3:Below w.heap.size w w2:=hf.bel.trans (hb2.mono hf.bel.size)
 clear hf hb2 hi hk1
 go_wp2_with fail
 go_loopw [8] (fun u wr => ∃ k:Nat,k ≤ 64 ∧ u = .int .i64 (k:Int) ∧ Puts w.heap.size i k (fun _ => 0) w2 wr) (fun u _ => 64 - (intOf u).toNat)
 case atStart => exact ⟨0,by omega,rfl,Puts.nil _ _ _ _⟩
 case round =>
  obtain ⟨k,hk,rfl,hp⟩:=hrel
  by_cases hlt:k < 64
  ·have hcw:=hB2.seg (i + k) (by omega)
   have hc:wr.cell? ⟨w.heap.size,i + k,none⟩ = some (.int .u8 (z (i + k))):=by
    have:=hp.cell (i + k);rw [if_neg (by omega)] at this;rw [this,← hcw,Nat.zero_add]
   have hfr:wr.frozen? ⟨w.heap.size,i + k,none⟩ = false:=by rw [hp.only.frozen];exact soft_of_heap hB2 _
   have HCW:=Lib.hid hcw
   clear hcw
   go_wp2_with fail
   go_roundw
   case rel => exact ⟨k + 1,by omega,by go_num,hp.snoc (by have:=HCW.out;rwa [Nat.zero_add] at this) rfl⟩
   case measure => simp [intOf];omega
  ·obtain rfl:k = 64:=by omega
   have hB3:=hB2.puts hp
   have hR3:Blk wr (w.heap.size + 1 + 1) 32 256 (fun _ => 0):=hR2.only hp.only (by omega)
   have hI3:InoAt wr (w.heap.size + 1) 63 x:=hI2.only hp.only (by omega)
   have hb4:Below w.heap.size w wr:=hb3.trans (hp.only.below (Nat.le_refl _))
   clear hp hB2 hR2 hI2 hb3
   have c2:wr.cell? ⟨w.heap.size + 1,0,none⟩ = some (.int .u8 x.kind):=hI3.cell (i:=0) rfl
   have c3:wr.cell? ⟨w.heap.size,i,none⟩ = some (.int .u8 (over z i 64 (fun _ => 0) i)):=by have:=hB3.seg i (by omega);rwa [Nat.zero_add] at this
   have f3:wr.frozen? ⟨w.heap.size,i,none⟩ = false:=soft_of_heap hB3 i
   have hB4:=hB3.setCell i x.kind (by omega)
   have hO:=Only.setCell wr ⟨w.heap.size,i,none⟩ (.int .u8 x.kind)
   have hR4:Blk (wr.setCell ⟨w.heap.size,i,none⟩ (.int .u8 x.kind)) (w.heap.size + 1 + 1) 32 256 (fun _ => 0):=hR3.only hO (by simp;omega)
   have hI4:InoAt (wr.setCell ⟨w.heap.size,i,none⟩ (.int .u8 x.kind)) (w.heap.size + 1) 63 x:=hI3.only hO (by simp)
   have hb5:Below w.heap.size w (wr.setCell ⟨w.heap.size,i,none⟩ (.int .u8 x.kind)):=hb4.trans (hO.below (Nat.le_refl _))
   have d2:(wr.setCell ⟨w.heap.size,i,none⟩ (.int .u8 x.kind)).cell? ⟨w.heap.size + 1,1,none⟩ = some (.int .i64 x.links):=hI4.cell (i:=1) rfl
   go_wp2_with fail
   generalize wr.setCell ⟨w.heap.size,i,none⟩ (.int .u8 x.kind) = W4 at hB4 hR4 hI4 hb5 d2 ⊢
   clear hO c2 c3 f3 hB3 hR3 hI3 hb4
   have hz4:Byt (over (over z i 64 fun _ => 0) i 1 fun _ => x.kind):=byt_over (byt_over hz (fun _ => ⟨by simp,by simp⟩) _ _) (fun _ => ⟨by show 0 ≤ x.kind;omega,by show x.kind < 256;omega⟩) _ _
   have e1:IntKind.i64.wrap ((i:Int) + 2) = (i:Int) + 2:=IntWalk.i64_in _ (by omega)
   have e2:IntKind.u32.wrap x.links = x.links:=IntWalk.u32_in _ (by omega)
   go_still_tail 6,(by kernel_rfl)
   go_wp2_with fail
   refine (rput16_yes w.heap.size 0 256 _ ((i:Int) + 2) x.links _ _ (by omega) (by omega) (by omega) hl0 (by omega) (by exact hB4.seg) hz4 (by exact hB4.soft 0 256)).mono ?_
   rintro e w5 ⟨rfl,hp5⟩
   rw [show 0 + ((i:Int) + 2).toNat = i + 2 by omega] at hp5
   have hB5:Blk w5 w.heap.size 32 256 _:=Blk.puts (w:=W4.drew) hB4 hp5
   have hR5:Blk w5 (w.heap.size + 1 + 1) 32 256 (fun _ => 0):=Blk.only (w:=W4.drew) hR4 hp5.only (by omega)
   have hI5:InoAt w5 (w.heap.size + 1) 63 x:=InoAt.only (w:=W4.drew) hI4 hp5.only (by omega)
   have hb6:Below w.heap.size w w5:=hb5.drew.trans (hp5.only.below (Nat.le_refl _))
   have hB5:=hB5.congr (fun j _ => x.stage_zero z i j)
   clear hp5 hB4 hR4 hI4 hb5 d2 hz4 e1 e2
   have hzs:Hid (∀ m,Byt (over z i 64 (x.stage m))):=fun m => byt_over hz (Ino.byt_stage hx hkd m) _ _
   have hzs0:=hzs.out 0
   have d3:w5.cell? ⟨w.heap.size + 1,2,none⟩ = some (.int .u32 x.gen):=hI5.cell (i:=2) rfl
   have hgen:=hx.gen
   go_wp2_with fail
   have e1:IntKind.i64.wrap ((i:Int) + 4) = (i:Int) + 4:=IntWalk.i64_in _ (by omega)
   go_still_tail 5,(by kernel_rfl)
   go_wp2_with fail
   refine (rput32_yes w.heap.size 0 256 _ ((i:Int) + 4) x.gen _ _ (by omega) (by omega) (by omega) (by omega) (by omega) (by exact hB5.seg) hzs0 (by exact hB5.soft 0 256)).mono ?_
   rintro e w6 ⟨rfl,hp6⟩
   rw [show 0 + ((i:Int) + 4).toNat = i + (4 + 4 * 0) by omega] at hp6
   have hB6:Blk w6 w.heap.size 32 256 _:=Blk.puts (w:=w5.drew) hB5 hp6
   have hR6:Blk w6 (w.heap.size + 1 + 1) 32 256 (fun _ => 0):=Blk.only (w:=w5.drew) hR5 hp6.only (by omega)
   have hI6:InoAt w6 (w.heap.size + 1) 63 x:=InoAt.only (w:=w5.drew) hI5 hp6.only (by omega)
   have hb7:Below w.heap.size w w6:=hb6.drew.trans (hp6.only.below (Nat.le_refl _))
   have hB6:=hB6.congr (fun j _ => x.stage_next z i 0 (by omega) j)
   clear hp6 hB5 hR5 hI5 hb6 d3 e1 hgen hzs0
   have hzs1:=hzs.out 1
   have d4:w6.cell? ⟨w.heap.size + 1,3,none⟩ = some (.int .i64 x.size):=hI6.cell (i:=3) rfl
   go_wp2_with fail
   have e1:IntKind.i64.wrap ((i:Int) + 8) = (i:Int) + 8:=IntWalk.i64_in _ (by omega)
   have e2:IntKind.u32.wrap x.size = x.size:=IntWalk.u32_in _ (by omega)
   go_still_tail 6,(by kernel_rfl)
   go_wp2_with fail
   refine (rput32_yes w.heap.size 0 256 _ ((i:Int) + 8) x.size _ _ (by omega) (by omega) (by omega) (by omega) (by omega) (by exact hB6.seg) hzs1 (by exact hB6.soft 0 256)).mono ?_
   rintro e w7 ⟨rfl,hp7⟩
   rw [show 0 + ((i:Int) + 8).toNat = i + (4 + 4 * 1) by omega] at hp7
   have hB7:Blk w7 w.heap.size 32 256 _:=Blk.puts (w:=w6.drew) hB6 hp7
   have hR7:Blk w7 (w.heap.size + 1 + 1) 32 256 (fun _ => 0):=Blk.only (w:=w6.drew) hR6 hp7.only (by omega)
   have hI7:InoAt w7 (w.heap.size + 1) 63 x:=InoAt.only (w:=w6.drew) hI6 hp7.only (by omega)
   have hb8:Below w.heap.size w w7:=hb7.drew.trans (hp7.only.below (Nat.le_refl _))
   have hB7:=hB7.congr (fun j _ => x.stage_next z i 1 (by omega) j)
   clear hp7 hB6 hR6 hI6 hb7 d4 e1 e2 hzs1
   go_wp2_with fail
   clear hB5 hB6
   go_loopw [9] (fun u wr => ∃ k:Nat,k ≤ 11 ∧ u = .int .i64 (k:Int) ∧ Blk wr w.heap.size 32 256 (over z i 64 (x.stage (k + 2))) ∧ Blk wr (w.heap.size + 1 + 1) 32 256 (fun _ => 0) ∧ InoAt wr (w.heap.size + 1) 63 x ∧ Below w.heap.size w wr) (fun u _ => 11 - (intOf u).toNat)
   case atStart => exact ⟨0,by omega,rfl,hB7,hR7,hI7,hb8⟩
   case round =>
    clear hB7 hR7 hI7 hb8
    obtain ⟨k,hk2,rfl,hB,hR,hI,hb⟩:=hrel
    by_cases hlt2:k < 11
    ·have hzk:=hzs.out (k + 2)
     have d1:=hI.ptr k hlt2
     have hpk:=hx.p k
     have HW:Hid (x.word (k + 2) = x.p k):=by show _ = _;unfold Ino.word;rw [if_neg (by omega),if_neg (by omega),if_pos (by omega)];rfl
     have l0:(0:Int) ≤ (k:Int):=by omega
     have l1:(k:Int) < 11:=by omega
     go_wp2_with fail
     have e1:IntKind.i64.wrap ((i:Int) + 12) = (i:Int) + 12:=IntWalk.i64_in _ (by omega)
     have e2:IntKind.i64.wrap (4 * (k:Int)) = 4 * (k:Int):=IntWalk.i64_in _ (by omega)
     have e3:IntKind.i64.wrap ((i:Int) + 12 + 4 * (k:Int)) = (i:Int) + 12 + 4 * (k:Int):=IntWalk.i64_in _ (by omega)
     go_still_tail 10,(by kernel_rfl)
     go_wp2_with fail
     refine (rput32_yes w.heap.size 0 256 _ ((i:Int) + 12 + 4 * (k:Int)) (x.p k) _ _ (by omega) (by omega) (by omega) (by omega) (by omega) (by exact hB.seg) hzk (by exact hB.soft 0 256)).mono ?_
     rintro e w8 ⟨rfl,hp8⟩
     rw [show 0 + ((i:Int) + 12 + 4 * (k:Int)).toNat = i + (4 + 4 * (k + 2)) by omega,← HW.out] at hp8
     have hB8:Blk w8 w.heap.size 32 256 _:=Blk.puts (w:=wr.drew) hB hp8
     have hR8:Blk w8 (w.heap.size + 1 + 1) 32 256 (fun _ => 0):=Blk.only (w:=wr.drew) hR hp8.only (by omega)
     have hI8:InoAt w8 (w.heap.size + 1) 63 x:=InoAt.only (w:=wr.drew) hI hp8.only (by omega)
     have hb9:Below w.heap.size w w8:=hb.drew.trans (hp8.only.below (Nat.le_refl _))
     have hB9:=hB8.congr (fun j _ => x.stage_next z i (k + 2) (by omega) j)
     clear hp8 e1 e2 e3
     go_wp2_with fail
     go_roundw
     case rel => exact ⟨k + 1,by omega,by go_num,by rw [show k + 1 + 2 = k + 2 + 1 by omega];exact hB9,hR8,hI8,hb9⟩
     case measure => simp [intOf];omega
    ·obtain rfl:k = 11:=by omega
     have hzk:=hzs.out (11 + 2)
     have d1:wr.cell? ⟨w.heap.size + 1,15,none⟩ = some (.int .u32 x.next):=hI.cell (i:=15) rfl
     have hpk:=hx.next
     go_wp2_with fail
     have e1:IntKind.i64.wrap ((i:Int) + 56) = (i:Int) + 56:=IntWalk.i64_in _ (by omega)
     go_still_tail 5,(by kernel_rfl)
     go_wp2_with fail
     refine (rput32_yes w.heap.size 0 256 _ ((i:Int) + 56) x.next _ _ (by omega) (by omega) (by omega) (by omega) (by omega) (by exact hB.seg) hzk (by exact hB.soft 0 256)).mono ?_
     rintro e w8 ⟨rfl,hp8⟩
     rw [show 0 + ((i:Int) + 56).toNat = i + (4 + 4 * 13) by omega] at hp8
     have hB8:Blk w8 w.heap.size 32 256 _:=Blk.puts (w:=wr.drew) hB hp8
     have hR8:Blk w8 (w.heap.size + 1 + 1) 32 256 (fun _ => 0):=Blk.only (w:=wr.drew) hR hp8.only (by omega)
     have hb9:Below w.heap.size w w8:=hb.drew.trans (hp8.only.below (Nat.le_refl _))
     have hB9:=(hB8.congr (fun j _ => x.stage_next z i 13 (by omega) j)).congr (y:=over z i 64 x.byte) (fun j _ => by
      by_cases hj:i ≤ j ∧ j < i + 64
      ·rw [over_in _ _ _ _ _ hj,over_in _ _ _ _ _ hj];exact x.stage_all _
      ·rw [over_out _ _ _ _ _ (by omega),over_out _ _ _ _ _ (by omega)])
     clear hp8 e1 hB8 hB hR hI hb d1 hpk hzk hzs
     have hB2:Hid (w8.heap[w.heap.size]? = some (.cells (Ks .u8 256 (over z i 64 x.byte)).toArray 32 (0,0))):=hB9
     have hR2:Hid (w8.heap[w.heap.size + 1 + 1]? = some (.cells (Ks .u8 256 (fun _ => 0)).toArray 32 (0,0))):=hR8
     clear hB9 hR8
     go_wp2_with (first | (refine wpList_load_row rfl 32 (.tmp 3) rfl w.heap.size rfl 32 (Ks .u8 256 (over z i 64 x.byte)).toArray (0,0) _ hB2.out Tryz.underlying32 rfl (info_block' _) ?_) | (refine wpList_store_row rfl 32 (.tmp 6) (.tmp 71) rfl (w.heap.size + 1 + 1) (Ks .u8 256 (over z i 64 x.byte)).toArray rfl rfl 32 _ hR2.out (info_block' _) (by rw [Ks_size,Ks_size]) (Ks_one _ _ _) ?_))
     refine bodyPost_ret (results_row_tmp rfl _ _ (w.heap.size + 1 + 1) 32 (Ks .u8 256 (over z i 64 x.byte)).toArray (0,0) _ rfl (Blk.setRow (z:=fun _ => 0) hR2.out _) Tryz.underlying32 rfl (info_block' _)) rfl ⟨?_,?_⟩
     ·rw [Int.toNat_natCast];rfl
     ·exact below_setRow hb9 (by omega) _
end Go.Proofs.YtphamecphmbipaaGreatDoor

namespace Go.Proofs.YtphamecphmbipaaGreatDoor
open Go.RowKit Go.Shelf
set_option linter.unusedVariables false
theorem InoAt.range {w:World} {g:Nat} {T:TypeId} {x:Ino} (h:InoAt w g T x):w.rangeAt g 0 x.arr.toList:=by
 intro j v hj
 rw [Nat.zero_add]
 exact cell_of_heap h (by simpa using hj)
theorem rput_any (z:Nat → Int) (hz:Byt z) (a:Int) (x:Ino) (hx:x.Ok) (w:World) :
  Calls Tryz.prog 63 #[bval z,.int .i64 a,x.val] w fun e w' => e = .returned (.tuple #[bval (putZ z a x),.int .i64 (putErr a x)]) ∧ Below w.heap.size w w':=by
 cases hok:putOk a x with
 | true =>
  have he:putErr a x = 0:=by unfold putOk at hok;rw [Bool.and_eq_true] at hok;unfold putErr;rw [hok.1,hok.2];rfl
  rw [he,putZ,hok,if_pos rfl]
  exact rput_yes z hz a x hx w hok
 | false =>
  rw [putZ,hok]
  exact rput_no z a x hx w hok
end Go.Proofs.YtphamecphmbipaaGreatDoor
