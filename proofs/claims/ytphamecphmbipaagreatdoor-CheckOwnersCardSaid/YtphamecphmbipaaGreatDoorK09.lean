/- Texts of this claim, merged by a program (a claim may have 60 files): Bar, Store, New, S8a, Move2, Bar2, R9a, R9f, R9h, R9i, R9j, R9b, R9c, R9k, R9l, R9d. -/
import Derived.Test.YtphamecphmbipaaGreatDoorK05
import Derived.Lib.Strings
import Derived.Lib.Slices
import Derived.Lib.Walk
import Derived.Lib.Bytealg
import Derived.Test.YtphamecphmbipaaGreatDoorK08
import Derived.Test.YtphamecphmbipaaGreatDoorK01
namespace Go.Proofs.YtphamecphmbipaaGreatDoor
open Go.RowKit
set_option linter.unusedVariables false
section
variable {P:Program} {md:Region.Mode} {ops:Array Oper}
end
section
variable {P:Program}
theorem run_storeVar1 (w:World) (b off:Nat) (ty:TypeId) (u v:Value) (hc:w.cell? ⟨b,off,none⟩ = some u) (hf:w.frozen? ⟨b,off,none⟩ = false) (hi:(P.info? ty).map (·.size) = some 1) (h1:v.oneCell' = true) :
  (storeVar ty ⟨b,off,none⟩ v).run P w = .ok () (w.setCell ⟨b,off,none⟩ v):=by
 have hv:v.cells = #[v]:=by cases v <;> first | rfl | cases h1
 have hst:(store ⟨b,off,none⟩ v).run P w = .ok () (w.setCell ⟨b,off,none⟩ v):=by rw [run_store P w _ _ _ h1,hc];simp [hf]
 cases hq:P.info? ty with
 | none => simp [hq] at hi
 | some i =>
  have hs:i.size = 1:=by simpa [hq] using hi
  simp [storeVar,sizeOf,typeInfo,hq,hv,hs,storeCells,addr_add,hst]
theorem wp_store1 {ops:Array Oper} {rest:List Oper} {o:Oper} {a:Act} {w:World} {Q:Exit → Act → World → Prop} (hgd:o.guard = none) (ty:TypeId) (x y:Operand) (ho:o.op = .store ty x y)
  (b off:Nat) (v:Value) (hx:a.eval x = .pointer (some ⟨b,off,none⟩)) (hy:a.eval y = v) (u:Value) (hc:w.cell? ⟨b,off,none⟩ = some u) (hf:w.frozen? ⟨b,off,none⟩ = false) (hi:(P.info? ty).map (·.size) = some 1) (h1:v.oneCell' = true)
  (h:wpList P ops Q rest (a.put o.dst undef) (w.setCell ⟨b,off,none⟩ v)):wpList P ops Q (o :: rest) a w :=
 wpList_plain hgd fun _ hK => by
  unfold Oper.wp execOp
  simp only [ho,hx,hy,Instr.storeAt,Instr.sureAddr,Sem.run_bind,Sem.run_pure,Result.andThen_ok,run_storeVar1 w b off ty u v hc hf hi h1]
  exact hK _ _ h
end
theorem info_u8:(Tryz.prog.info? 5).map (·.size) = some 1:=by kernel_rfl
theorem wp_storeByte {ops:Array Oper} {rest:List Oper} {o:Oper} {a:Act} {w:World} {Q:Exit → Act → World → Prop} (hgd:o.guard = none) (x y:Operand) (ho:o.op = .store 5 x y)
  (b off:Nat) (v:Int) (hx:a.eval x = .pointer (some ⟨b,off,none⟩)) (hy:a.eval y = .int .u8 v) {T:TypeId} {n:Nat} {z:Nat → Int} (hB:Blk w b T n z) (hn:off < n)
  (h:∀ w',Blk w' b T n (over z off 1 (fun _ => v)) → Only b w w' → wpList Tryz.prog ops Q rest (a.put o.dst undef) w'):wpList Tryz.prog ops Q (o :: rest) a w :=
 wp_store1 hgd 5 x y ho b off _ hx hy _ (by have:=hB.seg off hn;rwa [Nat.zero_add] at this) (soft_of_heap hB off) info_u8 rfl (h _ (hB.setCell off v hn) (Only.setCell w ⟨b,off,none⟩ _))
def Cl (R:World → Prop):Prop:=∀ W W',R W → Below W.heap.size W W' → R W'
section
variable {P:Program} {md:Region.Mode} {ops ops1:Array Oper} {S:World → Prop} {A:Act}
variable {n d:Nat} {al:Oper} {l2:List Oper} {T:TypeId} {cs:Array Value} {Q:Exit → Act → World → Prop} {base:Nat}
end
set_option maxHeartbeats 1000000 in
set_option maxRecDepth 100000 in
theorem lite_IndexByte (s:ByteArray) (c:Int) (w:World) :
  Calls Tryz.prog 167 #[.string s,.int .u8 c] w fun e w' => e = .returned (.int .i64 (Lib.indexByte s.data.toList c.toNat.toUInt8)) ∧ w' = w:=by
 go_enter Tryz.func167,Tryz.ntmps167
 go_wp2
 rw [run_callFunc_extern Tryz.func168 (by kernel_rfl) (by kernel_rfl) (by kernel_rfl) (e:=Extern.BytealgIndexByte.indexByte) (by kernel_rfl),Lib.run_indexByteString]
 simp only [Result.andThen]
 rw [Oper.upon_value]
 go_wp2
 go_ret
 exact ⟨rfl,rfl⟩
set_option maxHeartbeats 1000000 in
theorem strings_IndexByte (s:ByteArray) (c:Int) (w:World) :
  Calls Tryz.prog 164 #[.string s,.int .u8 c] w fun e w' => e = .returned (.int .i64 (Lib.indexByte s.data.toList c.toNat.toUInt8)) ∧ w' = w:=by
 go_enter Tryz.func164,Tryz.ntmps164
 go_wp2_with fail
 refine (lite_IndexByte _ _ _).mono ?_
 rintro e w' ⟨rfl,rfl⟩
 go_wp2_with fail
 go_ret
 exact ⟨rfl,rfl⟩
def mayL (l:List UInt8):Bool:=decide (1 ≤ l.length) && (decide (l.length ≤ 27) && (l != [46] && (l != [46,46] && (!l.contains 47 && !l.contains 0))))
def mayB (s:ByteArray):Bool:=mayL s.data.toList
theorem indexByte_neg (l:List UInt8) (c:UInt8):decide (Lib.indexByte l c < 0) = !l.contains c:=by
 induction l with
 | nil => rfl
 | cons b l ih =>
  have hge:=Lib.indexByte_ge l c
  unfold Lib.indexByte
  by_cases hb:(b == c) = true
  ·have:b = c:=by simpa using hb
   subst this;simp
  ·have hb':(b == c) = false:=by simpa using hb
   have hcb:(c == b) = false:=by rw [beq_eq_false_iff_ne] at hb' ⊢;exact fun h => hb' h.symm
   rw [List.contains_cons,hcb,Bool.false_or,← ih,hb']
   simp only [Bool.false_eq_true,if_false]
   split
   ·rename_i h1;have h2:=beq_iff_eq.1 h1;rw [h2]
   ·rename_i h1
    have:Lib.indexByte l c ≠ -1:=by simpa using h1
    rw [decide_eq_false (by omega),decide_eq_false (by omega)]
set_option maxHeartbeats 1000000 in
theorem mayName_any (s:ByteArray) (hs:s.size ≤ 9223372036854775807) (w:World):Calls Tryz.prog 160 #[.string s] w fun e w' => e = .returned (.bool (mayB s)) ∧ w = w':=by
 have hsz:s.size = s.toList.length:=by rw [ByteArray.toList_eq];rfl
 have hM:mayB s = (decide (1 ≤ s.toList.length) && (decide (s.toList.length ≤ 27) && (s.toList != [46] && (s.toList != [46,46] && (!s.toList.contains 47 && !s.toList.contains 0))))):=by unfold mayB mayL;rw [ByteArray.toList_eq]
 have HM:=Lib.hid hM
 have HZ:=Lib.hid hsz
 clear hM hsz
 go_enter Tryz.func160,Tryz.ntmps160
 by_cases h1:1 ≤ s.size
 rotate_left
 ·have d1:(s.size:Int) < 1:=by omega
  have HN:Hid (mayB s = false):=by show _ = _;rw [HM.out,← HZ.out,decide_eq_false h1];rfl
  go_wp2_with fail
  go_ret
  exact ⟨by rw [HN.out];rfl,rfl⟩
 have d1:¬ (s.size:Int) < 1:=by omega
 by_cases h2:s.size ≤ 27
 rotate_left
 ·have d2:(27:Int) < s.size:=by omega
  have HN:Hid (mayB s = false):=by show _ = _;rw [HM.out,← HZ.out,decide_eq_false h2];simp
  go_wp2_with fail
  go_ret
  exact ⟨by rw [HN.out];rfl,rfl⟩
 have d2:¬ (27:Int) < s.size:=by omega
 cases h3:s.toList == [46] with
 | true =>
  have HN:Hid (mayB s = false):=by show _ = _;rw [HM.out,bne,h3];simp
  go_wp2_with fail
  go_ret
  exact ⟨by rw [HN.out];rfl,rfl⟩
 | false =>
 cases h4:s.toList == [46,46] with
 | true =>
  have HN:Hid (mayB s = false):=by show _ = _;rw [HM.out,bne,bne,h4];simp
  go_wp2_with fail
  go_ret
  exact ⟨by rw [HN.out];rfl,rfl⟩
 | false =>
 have HY:Hid (mayB s = (!s.data.toList.contains 47 && !s.data.toList.contains 0)):=by
  show _ = _
  rw [HM.out,← HZ.out,bne,bne,h3,h4,decide_eq_true h1,decide_eq_true h2,ByteArray.toList_eq];rfl
 go_wp2_with fail
 refine (strings_IndexByte _ _ _).mono ?_
 rintro e w' ⟨rfl,rfl⟩
 have e1:=indexByte_neg s.data.toList 47
 have e2:=indexByte_neg s.data.toList 0
 rw [show ((47:Int).toNat.toUInt8) = 47 from rfl]
 generalize Lib.indexByte s.data.toList 47 = k1 at *
 cases hc:s.data.toList.contains 47 with
 | true =>
  rw [hc] at e1 HY
  have q:¬ k1 < 0:=by simpa using e1
  clear e1 hc
  go_wp2_with fail
  go_ret
  exact ⟨by rw [HY.out];rfl,rfl⟩
 | false =>
  rw [hc] at e1 HY
  have q:k1 < 0:=by simpa using e1
  clear e1 hc
  go_wp2_with fail
  refine (strings_IndexByte _ _ _).mono ?_
  rintro e w' ⟨rfl,rfl⟩
  rw [show ((0:Int).toNat.toUInt8) = 0 from rfl]
  generalize Lib.indexByte s.data.toList 0 = k2 at *
  have E2:=Lib.hid e2
  clear e2
  go_wp2_with fail
  go_ret
  exact ⟨by rw [HY.out,← E2.out];rfl,rfl⟩
end Go.Proofs.YtphamecphmbipaaGreatDoor

namespace Go.Proofs.YtphamecphmbipaaGreatDoor.Mv
open Go.RowKit Go.Proofs.YtphamecphmbipaaGreatDoor
set_option linter.unusedVariables false
def reachB (md:Region.Mode) (ops:Array Oper):Nat → Nat → Nat → Bool
 | 0,_,_ => false
 | fuel + 1,j,i => match ops[j]? with
  | none => false
  | some oj => oj.after.any fun e => Region.binds md e && (e.on == i || reachB md ops fuel e.on i)
def chainC (md:Region.Mode) (ops:Array Oper):Bool :=
 (List.range ops.size).all fun j => (List.range j).all fun i => match ops[j]?,ops[i]? with
  | some oj,some oi => !(mv oi && mv oj) || reachB md ops ops.size j i
  | _,_ => true
section
variable {P:Program} {ops:Array Oper} {md:Region.Mode} {σ:Type} {C:σ → World → Prop}
theorem chainC_spec (h:chainC md ops = true) {i j:Nat} {oi oj:Oper} (hi:ops[i]? = some oi) (hj:ops[j]? = some oj) (ci:mv oi = true) (cj:mv oj = true) (hij:i < j):reachB md ops ops.size j i = true:=by
 unfold chainC at h
 rw [List.all_eq_true] at h
 have h1:=h j (List.mem_range.2 (Array.getElem?_eq_some_iff.1 hj).1)
 rw [List.all_eq_true] at h1
 have h2:=h1 i (List.mem_range.2 hij)
 rw [hi,hj] at h2
 simpa only [ci,cj,Bool.and_true,Bool.not_true,Bool.false_or] using h2
def Cl (md:Region.Mode) (ops:Array Oper) (listed:Array Bool):Prop:=∀ j oj,ops[j]? = some oj → listed.getD j false = true → ∀ e ∈ oj.after,Region.binds md e = true → listed.getD e.on false = true
theorem Cl.next {listed:Array Bool} (h:Cl md ops listed) {j:Nat} (hj:j ∈ Region.ready md ops listed):Cl md ops (listed.setIfInBounds j true):=by
 intro k ok hk hl e he hb
 obtain ⟨hun,oj,hoj,hall⟩:=mem_ready.1 hj
 refine getD_set_true ?_
 by_cases hjk:j = k
 ·subst hjk
  rw [hoj] at hk;cases hk
  exact hall e he hb
 ·rw [getD_set_ne false hjk] at hl
  exact h k ok hk hl e he hb
theorem Cl.reach {listed:Array Bool} (h:Cl md ops listed):∀ {fuel j i:Nat} {oj:Oper},(∀ e ∈ oj.after,Region.binds md e = true → listed.getD e.on false = true) → ops[j]? = some oj → reachB md ops fuel j i = true → listed.getD i false = true
 | 0,_,_,_,_,_,hr => by cases hr
 | fuel + 1,j,i,oj,hall,hj,hr => by
  unfold reachB at hr
  rw [hj] at hr
  simp only [Array.any_eq_true',Bool.and_eq_true,Bool.or_eq_true,beq_iff_eq] at hr
  obtain ⟨e,he,hb,hr⟩:=hr
  have h1:=hall e he hb
  rcases hr with rfl | hr
  ·exact h1
  ·cases ho:ops[e.on]? with
   | none =>
    cases fuel with
    | zero => cases hr
    | succ f => unfold reachB at hr;rw [ho] at hr;cases hr
   | some oe => exact Cl.reach h (h _ oe ho h1) ho hr
theorem wpAnyL_firstC (hex:∀ f args w (R':Ending → World → Prop),Calls P f args w R' → ∃ e w',R' e w') (hch:chainC md ops = true) {Q:σ → Act → Prop} {i:Nat} {oi:Oper} (hi:ops[i]? = some oi) (hsel:∀ (j:Nat) (o:Oper) cs b,ops[j]? = some o → o.op ≠ .select cs b) :
  ∀ (fuel:Nat) (listed:Array Bool) (s:σ) (a:Act),NE C s → Cl md ops listed → (∀ j,j < i → listed.getD j true = true) →
   (∀ j oj,ops[j]? = some oj → j ≠ i → listed.getD j true = false → (∀ e ∈ oj.after,Region.binds md e = true → e.on ≠ i) → oi.apart ops oj = true) →
   i ∈ Region.ready md ops listed → LX P ops C oi a s (wpAnyL P md ops C Q fuel (listed.setIfInBounds i true)) → wpAnyL P md ops C Q (fuel + 1) listed s a:=by
 intro fuel
 induction fuel with
 | zero =>
  intro listed s a hne _ _ _ hr H
  refine ⟨fun h => (by rw [h] at hr;cases hr),fun j hj => ?_⟩
  by_cases hji:j = i
  ·subst hji;exact H.linOp hi
  ·have h1:=ready_mono hj hji
   have h2:Region.ready md ops (listed.setIfInBounds i true) = []:=by
    obtain ⟨w0,hC0⟩:=hne
    rcases H with ⟨_,⟨_,hk⟩ | ⟨_,v,_,hk⟩⟩ | ⟨_,hk⟩
    ·obtain ⟨_,_,s',_,hL⟩:=movesUpon_some (hk w0 hC0) hex
     exact hL.1
    ·exact hk.1
    ·exact hk.1
   rw [h2] at h1
   cases h1
 | succ fuel ih =>
  intro listed s a hne hpre hlow hfree hr H
  refine ⟨fun h => (by rw [h] at hr;cases hr),fun j hj => ?_⟩
  by_cases hji:j = i
  ·subst hji;exact H.linOp hi
  ·have H1:LX P ops C oi a s (fun s1 a1 => Mv.linOp P ops C j (wpAnyL P md ops C Q fuel ((listed.setIfInBounds i true).setIfInBounds j true)) s1 a1) :=
    H.mono hne fun s1 a1 _ h => h.2 j (ready_mono hj hji)
   obtain ⟨hjun,oj,hoj,hall⟩:=mem_ready.1 hj
   have hnot:∀ e ∈ oj.after,Region.binds md e = true → e.on ≠ i:=fun e he hb heq => by
    have h1:=hall e he hb
    have h0:=getD_both (mem_ready.1 hr).1
    rw [heq,h0] at h1
    cases h1
   have hij:i < j:=by
    rcases Nat.lt_or_ge j i with h' | h'
    ·rw [hlow j h'] at hjun;cases hjun
    ·omega
   have hcc:mv oi = false ∨ mv oj = false:=by
    cases ci:mv oi with
    | false => exact .inl rfl
    | true =>
     refine .inr ?_
     cases cj:mv oj with
     | false => rfl
     | true =>
      have h0:=getD_both (mem_ready.1 hr).1
      have:=hpre.reach hall hoj (chainC_spec hch hi hoj ci cj hij)
      rw [h0] at this;cases this
   have h2:=linOp_put hex hoj (hfree j oj hoj hji hjun hnot) (fun cs b => hsel i oi cs b hi) (fun cs b => hsel j oj cs b hoj) hcc hne H1
   have hfree':∀ k ok,ops[k]? = some ok → k ≠ i → (listed.setIfInBounds j true).getD k true = false →
     (∀ e ∈ ok.after,Region.binds md e = true → e.on ≠ i) → oi.apart ops ok = true:=fun k ok hk hki hun hno => by
    refine hfree k ok hk hki ?_ hno
    by_cases hjk:j = k
    ·subst hjk;exact hjun
    ·rw [getD_set_ne true hjk] at hun;exact hun
   have hlow':∀ m,m < i → (listed.setIfInBounds j true).getD m true = true:=fun m hm => by rw [getD_set_ne true (by omega)];exact hlow m hm
   refine linOp_mono hne (fun s' a' hne' h3 => ?_) h2
   refine ih (listed.setIfInBounds j true) s' a' hne' (hpre.next hj) hlow' hfree' (ready_mono hr (Ne.symm hji)) ?_
   rw [Array.setIfInBounds_comm _ _ hji]
   exact h3
theorem wpAnyL_lexC (hex:∀ f args w (R':Ending → World → Prop),Calls P f args w R' → ∃ e w',R' e w') (hch:chainC md ops = true) {Q:σ → Act → Prop} (hs:Region.noSelect ops = true):∀ (l:List Oper) (n:Nat) (listed:Array Bool) (s:σ) (a:Act),NE C s → Cl md ops listed → (∀ j,j < n → listed.getD j true = true) → (∀ j,l[j]? = ops[n + j]?) →
  Region.lexFrom md ops l.length n listed = true → wpLin P ops C Q l s a → wpAnyL P md ops C Q l.length listed s a
 | [],_,_,_,_,_,_,_,_,hB,h => ⟨by simpa [Region.lexFrom] using hB,h⟩
 | o :: l,n,listed,s,a,hne,hpre,hlow,hl,hB,h => by
  have h0:ops[n]? = some o:=by simpa using (hl 0).symm
  simp only [List.length_cons,Region.lexFrom,Bool.and_eq_true] at hB
  obtain ⟨⟨hr,hf⟩,hB'⟩:=hB
  have hr':n ∈ Region.ready md ops listed:=by simpa using hr
  refine wpAnyL_firstC hex hch h0 (Region.noSelect_spec hs) l.length listed s a hne hpre hlow (Region.free_spec h0 hf) hr' ?_
  refine LX.mono hne (fun s' a' hne' h' => ?_) h
  refine wpAnyL_lexC hex hch hs l (n + 1) _ _ _ hne' (hpre.next hr') (fun j hj => ?_) (fun j => by have:=hl (j + 1);simpa [Nat.add_assoc,Nat.add_comm 1 j] using this) hB' h'
  by_cases hjn:n = j
  ·subst hjn
   rcases Nat.lt_or_ge n listed.size with h' | h'
   ·simp [h']
   ·simp [h']
  ·rw [getD_set_ne true hjn];exact hlow j (by omega)
theorem wp_region_mc (C:σ → World → Prop) (s:σ) {id:Nat} {Q:Exit → Act → World → Prop} {a:Act} {w:World} {l:List Oper} (hm:P.follows .mixedOrders = true) (hB:Region.lexB .any l.toArray = true) (hch:chainC .any l.toArray = true) (hC:C s { w with drawn:=w.drawn + 1 })
  (h:Nonempty (InW fun w => ∃ s,C s w) → wpLin P l.toArray C (fun s a' => ∀ w',C s w' → Q .normal a' w') l s a):(Code.region id l.toArray true).wp P Q a w:=by
 simp only [Region.lexB,Bool.and_eq_true] at hB
 refine wp_region_any hm (wpAny_of_lin (Q:=fun s a' => ∀ w',C s w' → Q .normal a' w') (fun _ _ w' hw' h => h w' hw') _ _ s _ _ hC ?_)
 have:=wpAnyL_lexC (C:=C) (md:=.any) calls_some hch hB.1 l 0 (Array.replicate l.toArray.size false) s a ⟨_,hC⟩ (fun j oj hj hl => by
   rcases Nat.lt_or_ge j l.toArray.size with h' | h'
   ·rw [List.size_toArray] at h';simp [h'] at hl
   ·rw [List.size_toArray] at h';simp [h'] at hl) (fun j hj => by omega) (by simp) (by simpa using hB.2) (h ⟨⟨_,s,hC⟩⟩)
 simpa using this
theorem lin_call {Q:σ → Act → Prop} {s:σ} {o:Oper} {rest:List Oper} {a:Act} (hw:Region.wanted o (yielded ops a.tmps) = true) (hm:mv o = true) (f:FuncId) (args:Array Value) (u:Value) (s':σ)
  (hrun:∀ W,(execOp a.eval o).run P W = .ok (.enter f args) W) (hcall:∀ W,C s W → Calls P f args W fun e w' => e = .returned u ∧ C s' w') (hk:wpLin P ops C Q rest s' (a.put o.dst u)):wpLin P ops C Q (o :: rest) s a :=
 lin_move hw hm fun w hC => by
  rw [hrun]
  exact (hcall w hC).mono fun e w' h => ⟨u,h.1,s',h.2,hk⟩
end
end Go.Proofs.YtphamecphmbipaaGreatDoor.Mv

namespace Go.Proofs.YtphamecphmbipaaGreatDoor
open Go.RowKit
set_option linter.unusedVariables false
def barB2 (md:Region.Mode) (n:Nat) (ops:Array Oper):Bool :=
 (List.range ops.size).all fun j => match ops[j]? with
  | none => true
  | some o => if j < n then (match o.guard with | none => true | some (g,_) => decide (g < n)) else (List.range j).all fun i => Mv.reachB md ops ops.size j i
section
variable {P:Program} {md:Region.Mode} {ops:Array Oper}
theorem barB_wait2 {n:Nat} (h:barB2 md n ops = true) {j:Nat} {o:Oper} (hj:ops[j]? = some o) (hn:n ≤ j) {i:Nat} (hi:i < j):Mv.reachB md ops ops.size j i = true:=by
 unfold barB2 at h
 rw [List.all_eq_true] at h
 have h1:=h j (List.mem_range.2 (Array.getElem?_eq_some_iff.1 hj).1)
 simp only [hj,if_neg (show ¬ j < n by omega),List.all_eq_true] at h1
 exact h1 i (List.mem_range.2 hi)
theorem barB_guard2 {n:Nat} (h:barB2 md n ops = true) {j:Nat} {o:Oper} (hj:ops[j]? = some o) (hn:j < n) {g:Nat} {b:Bool} (hg:o.guard = some (g,b)):g < n:=by
 unfold barB2 at h
 rw [List.all_eq_true] at h
 have h1:=h j (List.mem_range.2 (Array.getElem?_eq_some_iff.1 hj).1)
 simp only [hj,if_pos hn,hg,decide_eq_true_eq] at h1
 exact h1
theorem bar_tail2 {n:Nat} (hb:barB2 md n ops = true) (hd:downB md ops = true) {Q:Exit → Act → World → Prop}:∀ (l:List Oper) (k x:Nat) (listed:Array Bool) (a:Act) (w:World),n ≤ k → (∀ j,l[j]? = ops[k + j]?) → listed.size = ops.size →
  (∀ i,i < k → listed.getD i false = true) → (∀ i,k ≤ i → i < ops.size → listed.getD i true = false) → wpList P ops Q l a w → wpAny P md ops Q (l.length + x) listed a w
 | [],k,x,listed,a,w,hk,hl,hs,h1,h0,h => by
  have hsz:ops.size ≤ k:=by have:=(hl 0).symm;simp at this;omega
  have hr:Region.ready md ops listed = []:=by
   cases hr:Region.ready md ops listed with
   | nil => rfl
   | cons i r =>
    have hi:i ∈ Region.ready md ops listed:=by rw [hr];simp
    obtain ⟨hu,o,ho,_⟩:=mem_ready.1 hi
    have hlt:=(Array.getElem?_eq_some_iff.1 ho).1
    have:=h1 i (by omega)
    rw [Array.getD_eq_getD_getElem?,Array.getElem?_eq_getElem (by omega)] at hu this
    simp at hu this
    rw [this] at hu;cases hu
  cases x with
  | zero => exact ⟨hr,h⟩
  | succ x =>
   rw [show ([]:List Oper).length + (x + 1) = x + 1 by simp]
   exact ⟨fun _ => h,fun i hi => by rw [hr] at hi;cases hi⟩
 | o :: l,k,x,listed,a,w,hk,hl,hs,h1,h0,h => by
  have ho:ops[k]? = some o:=by simpa using (hl 0).symm
  have hlt:=(Array.getElem?_eq_some_iff.1 ho).1
  have hin:k ∈ Region.ready md ops listed:=mem_ready.2 ⟨h0 k (Nat.le_refl _) hlt,o,ho,fun e he hbe => h1 _ (downB_spec hd ho he hbe)⟩
  rw [show (o :: l).length + x = (l.length + x) + 1 by simp;omega]
  refine ⟨fun hr => (by rw [hr] at hin;cases hin),fun i hi => ?_⟩
  obtain ⟨hu,oi,hoi,hall⟩:=mem_ready.1 hi
  have hilt:=(Array.getElem?_eq_some_iff.1 hoi).1
  have hik:i = k:=by
   rcases Nat.lt_trichotomy i k with hh | hh | hh
   ·have:=h1 i hh
    rw [Array.getD_eq_getD_getElem?,Array.getElem?_eq_getElem (by omega)] at hu this
    simp at hu this
    rw [this] at hu;cases hu
   ·exact hh
   ·have hcl:Mv.Cl md ops listed:=fun j oj hj hlj e he hbe => by
     have hjk:j < k:=by
      rcases Nat.lt_or_ge j k with h' | h'
      ·exact h'
      ·have h2:=h0 j h' (Array.getElem?_eq_some_iff.1 hj).1
       rw [Array.getD_eq_getD_getElem?,Array.getElem?_eq_getElem (by have:=(Array.getElem?_eq_some_iff.1 hj).1;omega)] at h2 hlj
       simp at h2 hlj
       rw [h2] at hlj;cases hlj
     have:=downB_spec hd hj he hbe
     exact h1 _ (by omega)
    have hx:=hcl.reach hall hoi (barB_wait2 hb hoi (by omega) hh)
    have h2:=h0 k (Nat.le_refl _) hlt
    rw [Array.getD_eq_getD_getElem?,Array.getElem?_eq_getElem (by omega)] at hx h2
    simp at hx h2
    rw [hx] at h2;cases h2
  subst hik
  have key:wpOp P ops Q i (wpList P ops Q l) a w:=by
   unfold wpOp
   simp only [ho]
   exact h
  refine wpOp_mono (fun a' w' h' => bar_tail2 hb hd l (i + 1) x _ a' w' (by omega) (fun j => by have:=hl (j + 1);simpa [Nat.add_assoc,Nat.add_comm 1 j] using this) (by simpa using hs) (fun j hj => ?_) (fun j hj hjs => ?_) h') key
  ·by_cases hji:j = i
   ·subst hji;simp [Array.getD_eq_getD_getElem?,hs,hlt]
   ·rw [Array.getD_eq_getD_getElem?,Array.getElem?_setIfInBounds_ne (Ne.symm hji),← Array.getD_eq_getD_getElem?];exact h1 j (by omega)
  ·rw [Array.getD_eq_getD_getElem?,Array.getElem?_setIfInBounds_ne (by omega),← Array.getD_eq_getD_getElem?];exact h0 j (by omega) hjs
theorem bar_head2 {n:Nat} {ops1:Array Oper} {l2:List Oper} {C:World → Prop} (hb:barB2 md n ops = true) (hd:downB md ops = true) (hd1:downB md ops1 = true) (hn1:ops1.size = n) (h1:∀ i,i < n → ops1[i]? = ops[i]?) (hl:∀ j,l2[j]? = ops[n + j]?)
  {Q:Exit → Act → World → Prop} {Q1:Act → Prop} (hQ:∀ a w,C w → Q1 a → wpList P ops Q l2 a w):∀ (fuel:Nat) (listed1 listed:Array Bool) (a:Act) (w:World),C w → Mv.Cl md ops listed → listed1.size = n → listed.size = ops.size →
   (∀ i,i < n → listed1[i]? = listed[i]?) → (∀ i,n ≤ i → i < ops.size → listed.getD i true = false) → wpAnyQ P md ops1 C Q1 fuel listed1 a → wpAny P md ops Q (l2.length + fuel) listed a w:=by
 have hnn:n ≤ ops.size:=by
  rcases Nat.lt_or_ge ops.size n with h | h
  ·have:=h1 ops.size h
   rw [Array.getElem?_eq_none (Nat.le_refl _),Array.getElem?_eq_none_iff] at this
   omega
  ·exact h
 have done:∀ (fuel:Nat) (listed1 listed:Array Bool) (a:Act) (w:World),C w → listed1.size = n → listed.size = ops.size → (∀ i,i < n → listed1[i]? = listed[i]?) → (∀ i,n ≤ i → i < ops.size → listed.getD i true = false) →
   Region.ready md ops1 listed1 = [] → Q1 a → wpAny P md ops Q (l2.length + fuel) listed a w:=fun fuel listed1 listed a w hw hs1 hs hll h0 hr hq => by
  refine bar_tail2 hb hd l2 n fuel listed a w (Nat.le_refl _) hl hs (fun i hi => ?_) h0 (hQ a w hw hq)
  have:=ready_nil hd1 (by omega) hr i (by omega)
  rw [Array.getD_eq_getD_getElem?,hll i hi,← Array.getD_eq_getD_getElem?] at this
  exact this
 intro fuel
 induction fuel with
 | zero => intro listed1 listed a w hw hcl hs1 hs hll h0 h;exact done 0 listed1 listed a w hw hs1 hs hll h0 h.1 h.2
 | succ fuel ih =>
  intro listed1 listed a w hw hcl hs1 hs hll h0 h
  by_cases hr:Region.ready md ops1 listed1 = []
  ·exact done _ listed1 listed a w hw hs1 hs hll h0 hr (h.1 hr)
  ·obtain ⟨i0,hi0⟩:=List.exists_mem_of_ne_nil _ hr
   obtain ⟨hu0,o0,ho0,hall0⟩:=mem_ready.1 hi0
   have hi0n:i0 < n:=by rw [← hn1];exact (Array.getElem?_eq_some_iff.1 ho0).1
   have get:∀ i,i < n → ∀ d,listed1.getD i d = listed.getD i d:=fun i hi d => by rw [Array.getD_eq_getD_getElem?,Array.getD_eq_getD_getElem?,hll i hi]
   have up:i0 ∈ Region.ready md ops listed:=mem_ready.2 ⟨by rw [← get i0 hi0n];exact hu0,o0,by rw [← h1 i0 hi0n];exact ho0,fun e he hbe => by
    have hlt:=downB_spec hd1 ho0 he hbe
    rw [← get e.on (by omega)];exact hall0 e he hbe⟩
   rw [show l2.length + (fuel + 1) = (l2.length + fuel) + 1 by omega]
   refine ⟨fun hrr => (by rw [hrr] at up;cases up),fun i hi => ?_⟩
   obtain ⟨hu,o,ho,hall⟩:=mem_ready.1 hi
   have hin:i < n:=by
    rcases Nat.lt_or_ge i n with hh | hh
    ·exact hh
    ·have hx:=hcl.reach hall ho (barB_wait2 hb ho hh (i:=i0) (by omega))
     rw [← get i0 hi0n] at hx
     rw [Array.getD_eq_getD_getElem?,Array.getElem?_eq_getElem (by omega)] at hx hu0
     simp at hx hu0
     rw [hx] at hu0;cases hu0
   have ho1:ops1[i]? = some o:=by rw [h1 i hin];exact ho
   have hi1:i ∈ Region.ready md ops1 listed1:=mem_ready.2 ⟨by rw [get i hin];exact hu,o,ho1,fun e he hbe => by
    have hlt:=downB_spec hd1 ho1 he hbe
    rw [get e.on (by omega)];exact hall e he hbe⟩
   have hq:=h.2 i hi1
   have hwant:∀ a:Act,Region.wanted o (yielded ops1 a.tmps) = Region.wanted o (yielded ops a.tmps):=fun a => by
    unfold Region.wanted
    cases hg:o.guard with
    | none => rfl
    | some p =>
     obtain ⟨g,b⟩:=p
     have:=barB_guard2 hb ho hin hg
     simp only [yielded,h1 g this]
   have hq':qOp P ops C i (wpAnyQ P md ops1 C Q1 fuel (listed1.setIfInBounds i true)) a:=by
    unfold qOp at hq ⊢
    simp only [ho1] at hq
    simp only [ho]
    rw [← hwant]
    exact hq
   refine wpOp_of_qOp hw (fun a' w' hw' h' => ih (listed1.setIfInBounds i true) (listed.setIfInBounds i true) a' w' hw' (hcl.next hi) (by simpa using hs1) (by simpa using hs) (fun j hj => ?_) (fun j hj hjs => ?_) h') hq'
   ·by_cases hji:i = j
    ·subst hji;simp [hs1,hs,hj,show i < ops.size by omega]
    ·rw [Array.getElem?_setIfInBounds_ne hji,Array.getElem?_setIfInBounds_ne hji];exact hll j hj
   ·rw [Array.getD_eq_getD_getElem?,Array.getElem?_setIfInBounds_ne (by omega),← Array.getD_eq_getD_getElem?];exact h0 j hj hjs
theorem wp_region_bar2 (S:World → Prop) (n:Nat) {id:Nat} {Q:Exit → Act → World → Prop} {a:Act} {w:World} {L:List Oper} (hm:P.follows .mixedOrders = true) (hB:Region.lexB .any (L.take n).toArray = true)
  (hb:barB2 .any n L.toArray = true) (hd:downB .any L.toArray = true) (hd1:downB .any (L.take n).toArray = true) (hn:n ≤ L.length) (hS:S { w with drawn:=w.drawn + 1 })
  (h:Nonempty (InW S) → wpQuiet P (L.take n).toArray (fun w' => ∃ s:InW S,w' = s.W) (fun a' => ∀ w',InS S w' → wpList P L.toArray Q (L.drop n) a' w') (L.take n) a):(Code.region id L.toArray true).wp P Q a w:=by
 have hC:∃ s:InW S,{ w with drawn:=w.drawn + 1 } = s.W:=⟨⟨_,hS⟩,rfl⟩
 simp only [Region.lexB,Bool.and_eq_true] at hB
 have hq:=wpAnyQ_lex (C:=fun w' => ∃ s:InW S,w' = s.W) (md:=.any) hB.1 (L.take n) 0 (Array.replicate n false) a (by simp) (by have:=hB.2;simpa [Nat.min_eq_left hn] using this) (h ⟨⟨_,hS⟩⟩)
 have hlen:(L.take n).length = n:=by simp [Nat.min_eq_left hn]
 rw [hlen] at hq
 have:=bar_head2 (P:=P) (md:=.any) (ops:=L.toArray) (ops1:=(L.take n).toArray) (l2:=L.drop n) (n:=n) (C:=fun w' => ∃ s:InW S,w' = s.W) hb hd hd1 (by simp [Nat.min_eq_left hn]) (fun i hi => by simp [hi]) (fun j => by simp)
  (Q:=Q) (Q1:=fun a' => ∀ w',InS S w' → wpList P L.toArray Q (L.drop n) a' w') (fun a w hw h => h w hw) n (Array.replicate n false) (Array.replicate L.length false) a { w with drawn:=w.drawn + 1 } hC (fun j oj hj hl e he hbe => by
   rcases Nat.lt_or_ge j L.length with h' | h'
   ·simp [h'] at hl
   ·simp [h'] at hl) (by simp) (by simp)
  (fun i hi => by simp [hi,show i < L.length by omega]) (fun i hi hs => by simp at hs;simp [hs]) hq
 rw [show (L.drop n).length + n = L.length by simp;omega] at this
 refine wp_region_any hm ?_
 simpa using this
end
theorem rputW (g:Nat) {T:TypeId} (l:Nat → Int) (k:Nat) (K v:Int) (hK:K = 4 * (k:Int)) (hk:k < 64) (hv:0 ≤ v) (hv2:v < 4294967296) (w:World) (hB:Blk w g T 256 (wz l)) :
  Calls Tryz.prog 71 #[.slice (some ⟨g,0,none⟩) 256 256,.int .i64 K,.int .u32 v] w fun e w' => e = .returned (.bool true) ∧ Blk w' g T 256 (wz (upd l k v)) ∧ Only g w w':=by
 refine (rput32_yes g 0 256 256 K v (wz l) w (by omega) (by omega) (by omega) hv hv2 hB.seg (wz_byt l) (hB.soft 0 256)).mono fun e w' ⟨he,hp⟩ => ⟨he,?_,hp.only⟩
 rw [show 0 + K.toNat = 4 * k by omega] at hp
 exact (hB.puts hp).congr fun i _ => wz_put l k v i
theorem numR_upd (m:Nat → Int) (k j:Nat):upd (numR m k) k (m k) j = numR m (k + 1) j:=by
 unfold upd numR
 by_cases h:j = k
 ·rw [if_pos h,if_pos (by omega),h]
 ·rw [if_neg h]
  by_cases c:j < k
  ·rw [if_pos c,if_pos (by omega)]
  ·rw [if_neg c,if_neg (by omega)]
structure BkC (w:World) (G b off n:Nat) (m:Nat → Int) (k j:Nat) (W:World):Prop where
 r:Blk W w.heap.size 32 256 (fun _ => 0)
 g:Blk W G 32 256 (wz (if j = 0 then numR m k else numR m (k + 1)))
 t:NumSeg W b off n m
 bel:Below w.heap.size w W
set_option maxRecDepth 100000 in
set_option maxHeartbeats 2000000 in
theorem rblock_any (a:Option Addr) (n cap:Nat) (m:Nat → Int) (hm:Wds m) (hn:n ≤ 64) (w:World) (hT:NumRow w a n m) :
  Calls Tryz.prog 101 #[.slice a n cap] w fun e w' => e = .returned (bval (wz (numR m n))) ∧ Below w.heap.size w w':=by
 have hal:=zero_block
 have hR:Blk ((w.alloc (.cells (Ks .u8 256 (fun _ => 0)).toArray 32)).alloc (.cells (Ks .u8 256 (fun _ => 0)).toArray 32)) w.heap.size 32 256 (fun _ => 0):=(Blk.new _ _ _ _).alloc _
 have hB:Blk ((w.alloc (.cells (Ks .u8 256 (fun _ => 0)).toArray 32)).alloc (.cells (Ks .u8 256 (fun _ => 0)).toArray 32)) (w.heap.size + 1) 32 256 (wz (numR m 0)):=by
  have:=Blk.new (w.alloc (.cells (Ks .u8 256 (fun _ => 0)).toArray 32)) 32 256 (fun _ => 0)
  simp only [World.size_alloc] at this
  exact this.congr fun i _ => (byteOf_0 _).symm
 have hL:Below w.heap.size w ((w.alloc (.cells (Ks .u8 256 (fun _ => 0)).toArray 32)).alloc (.cells (Ks .u8 256 (fun _ => 0)).toArray 32)):=((Below.refl _ _).alloc (Nat.le_refl _) _).alloc (by simp) _
 have hT1:=hT.below hL
 have hblk:∀ x,a = some x → 0 < n → x.block < w.heap.size:=fun x hx h0 => hT.block h0 x hx
 have HBLK:=Lib.hid hblk
 have HM:=Lib.hid hm
 clear hT hblk hm
 go_enter Tryz.func101,Tryz.ntmps101
 go_wp2_with fail
 generalize ((w.alloc (.cells (Ks .u8 256 (fun _ => 0)).toArray 32)).alloc (.cells (Ks .u8 256 (fun _ => 0)).toArray 32)) = w1 at hR hB hL hT1 ⊢
 go_loopw [4] (fun u wr => ∃ k:Nat,k ≤ n ∧ u = .int .i64 (k:Int) ∧ Blk wr w.heap.size 32 256 (fun _ => 0) ∧ Blk wr (w.heap.size + 1) 32 256 (wz (numR m k)) ∧ NumRow wr a n m ∧ Below w.heap.size w wr) (fun u _ => n - (intOf u).toNat)
 case atStart => exact ⟨0,by omega,rfl,hR,hB,hT1,hL⟩
 case round =>
  clear hR hB hL hT1
  obtain ⟨k,hk,rfl,hR,hB,hT,hL⟩:=hrel
  by_cases hlt:k < n
  ·obtain ⟨b,off,rfl,hseg⟩:∃ b off,a = some ⟨b,off,none⟩ ∧ NumSeg wr b off n m:=by
    rcases hT with h | h
    ·omega
    ·exact h
   have hblt:=HBLK.out _ rfl (by omega)
   simp only at hblt
   obtain ⟨hm0,hm1⟩:=HM.out k
   have hc0:∀ x:InW (fun W => ∃ j,BkC w (w.heap.size + 1) b off n m k j W),x.W.cell? ⟨b,off + k,none⟩ = some (.int .u32 (m k)):=fun x => by obtain ⟨j,h⟩:=x.h;exact h.t k hlt
   have e1:IntKind.i64.wrap (4 * (k:Int)) = 4 * (k:Int):=IntWalk.i64_in _ (by omega)
   have hsa:=fun W => run_sliceBlkAll (w.heap.size + 1) 0 W
   have l0:(0:Int) ≤ (k:Int):=by omega
   have l1:(k:Int) < (n:Int):=by omega
   go_wp2_with fail
   refine wp_region_lin (BkC w (w.heap.size + 1) b off n m k) (by kernel_rfl) (by kernel_rfl) (by kernel_rfl) ⟨hR,hB,hseg,hL.drew⟩ ?_
   intro hne
   (refine lin_take 7 (by kernel_rfl) ?_;simp only [List.take_succ_cons,List.take_zero,List.drop_succ_cons,List.drop_zero])
   first | go_big_quiet_skip | (go_big_quiet_want;go_big_quiet_op;go_big_quiet_on)
   first | go_big_quiet_skip | (go_big_quiet_want;go_big_quiet_op;go_big_quiet_on)
   first | go_big_quiet_skip | (go_big_quiet_want;go_big_quiet_op;go_big_quiet_on)
   first | go_big_quiet_skip | (go_big_quiet_want;go_big_quiet_op;go_big_quiet_on)
   first | go_big_quiet_skip | (go_big_quiet_want;go_big_quiet_op;go_big_quiet_on)
   first | go_big_quiet_skip | (go_big_quiet_want;go_big_quiet_op;go_big_quiet_on)
   first | go_big_quiet_skip | (go_big_quiet_want;go_big_quiet_op;go_big_quiet_on)
   refine wpQuiet_nil ?_
   refine lin_call rfl rfl 71 #[.slice (some ⟨w.heap.size + 1,0,none⟩) 256 256,.int .i64 (4 * (k:Int)),.int .u32 (m k)] (.bool true) (fun W => by kernel_rfl) (fun W h => ?c1) ?_
   case c1 =>
    refine (rputW (w.heap.size + 1) (numR m k) k (4 * (k:Int)) (m k) rfl (by omega) hm0 hm1 W h.g).mono ?_
    rintro e w6 ⟨rfl,hB6,ho6⟩
    exact ⟨rfl,h.r.only ho6 (by omega),hB6.congr fun i hi => wz_congr 64 (fun j _ => numR_upd m k j) i hi,h.t.only ho6 (by omega),h.bel.trans (ho6.below (by omega))⟩
   refine wpLin_frame (by simp only [Act.put,List.setIfInBounds_toArray,List.set_cons_succ,List.set_cons_zero];exact rfl) ?_
   refine wpLin_nil ?_
   rintro w6 ⟨hR6,hB6,hT6,hL6⟩
   rw [if_neg (by decide)] at hB6
   clear hne hR hB hT hL hseg hc0 e1 hsa
   go_wp2_with fail
   go_roundw
   case rel => first | exact ⟨k + 1,by omega,by go_num,hR6,hB6,.inr ⟨b,off,rfl,hT6⟩,hL6⟩ | ((repeat apply Exists.intro);exact ⟨⟨k + 1,by omega,by go_num,hR6,hB6,.inr ⟨b,off,rfl,hT6⟩,hL6⟩,rfl⟩)
   case measure => simp [intOf];omega
  ·obtain rfl:k = n:=by omega
   go_wp2_with (first | (refine wp_loadBlk rfl (.tmp 3) rfl (w.heap.size + 1) (wz (numR m k)) rfl hB ?_) | (refine wp_storeBlk rfl (.tmp 2) (.tmp 19) rfl w.heap.size (wz (numR m k)) _ rfl rfl hR ?_))
   intro w6 hR6 ho6
   go_wp2_with fail
   exact bodyPost_ret (results_blk rfl _ _ w.heap.size _ rfl hR6) rfl ⟨rfl,hL.trans (ho6.below (Nat.le_refl _))⟩
theorem run_nums4 (a b c d:Int) (w:World):(Instr.buildSlice 180 4 #[(0,.int .u32 a),(1,.int .u32 b),(2,.int .u32 c),(3,.int .u32 d)]).run Tryz.prog w = .ok (.slice (some ⟨w.heap.size,0,none⟩) 4 4) (w.alloc (.cells #[.int .u32 a,.int .u32 b,.int .u32 c,.int .u32 d] 45)):=by kernel_rfl
theorem nums4 (w:World) (k s f:Int) (r:Nat → Int):NumRow (w.alloc (.cells #[.int .u32 1280199249,.int .u32 k,.int .u32 s,.int .u32 f] 45)) (some ⟨w.heap.size,0,none⟩) 4 (jw k s f r):=by
 refine .inr ⟨_,_,rfl,fun i hi => ?_⟩
 have h:=heap_alloc_new w (.cells #[.int .u32 1280199249,.int .u32 k,.int .u32 s,.int .u32 f] 45)
 obtain rfl | rfl | rfl | rfl:i = 0 ∨ i = 1 ∨ i = 2 ∨ i = 3:=by omega
 all_goals exact cell_of_heap h rfl
theorem wz_numR {m l:Nat → Int} {n:Nat} (h:∀ k,k < 64 → (if k < n then m k else 0) = l k):bval (wz (numR m n)) = bval (wz l):=bval_congr fun i hi => wz_congr 64 h i hi
theorem nz_wds':Wds nz:=fun _ => by unfold nz;decide
set_option maxRecDepth 100000 in
set_option maxHeartbeats 1000000 in
theorem rWriteHead_any (s t:Int) (w:World) (hs:0 ≤ s ∧ s < 4294967296) (ht:-9223372036854775808 ≤ t ∧ t ≤ 9223372036854775807) :
  Calls Tryz.prog 62 #[.agg #[.int .u32 s,.int .i64 t]] w fun e w' => e = .returned (.tuple #[bval (headZ s t),.int .i64 (errOf (headOk s t) 2)]) ∧ Below w.heap.size w w':=by
 obtain ⟨hs0,hs1⟩:=hs
 obtain ⟨ht0,ht1⟩:=ht
 have hal:=zero_block
 obtain ⟨W,hW⟩:∃ W,W = (w.alloc (.cells #[.int .u32 s,.int .i64 t] 141)).alloc (.cells (Ks .u8 256 (fun _ => 0)).toArray 32):=⟨_,rfl⟩
 have c0:W.cell? ⟨w.heap.size,0,none⟩ = some (.int .u32 s):=by rw [hW];exact cell_of_heap (heap_alloc_keep (heap_alloc_new w _) _) rfl
 have c1:W.cell? ⟨w.heap.size,1,none⟩ = some (.int .i64 t):=by rw [hW];exact cell_of_heap (heap_alloc_keep (heap_alloc_new w _) _) rfl
 have hR:Blk W (w.heap.size + 1) 32 256 (fun _ => 0):=by
  rw [hW]
  have:=Blk.new (w.alloc (.cells #[.int .u32 s,.int .i64 t] 141)) 32 256 (fun _ => 0)
  simp only [World.size_alloc] at this
  exact this
 have hL:Below w.heap.size w W:=by rw [hW];exact ((Below.refl _ _).alloc (Nat.le_refl _) _).alloc (by simp) _
 have HW:=Lib.hid hW
 have HC0:=Lib.hid c0
 have HC1:=Lib.hid c1
 clear hW c0 c1
 go_enter Tryz.func62,Tryz.ntmps62
 go_wp2_with fail
 rw [← HW.out]
 refine (rSeq_any s _).mono ?_
 rintro e w1 ⟨rfl,rfl⟩
 have c0:=HC0.out
 have c1:=HC1.out
 clear HC0 HC1 HW
 by_cases hq:seqB s = true
 rotate_left
 ·rw [Bool.not_eq_true] at hq
  have HO:Hid (headOk s t = false):=by show _ = _;unfold headOk;rw [hq];rfl
  rw [hq]
  clear hq
  go_wp2_with (first | (refine wp_storeBlk rfl (.tmp 2) (.tmp 18) rfl (w.heap.size + 1) (fun _ => 0) _ rfl rfl hR ?_))
  intro w2 hR2 ho2
  go_wp2_with fail
  exact bodyPost_ret (results_blk2 rfl _ _ (w.heap.size + 1) _ rfl hR2) rfl ⟨by rw [headZ,HO.out];rfl,hL.trans (ho2.below (by omega))⟩
 by_cases h1:0 ≤ t
 rotate_left
 ·have HO:Hid (headOk s t = false):=by show _ = _;unfold headOk;simp [h1]
  rw [hq]
  clear hq
  go_wp2_with (first | (refine wp_storeBlk rfl (.tmp 2) (.tmp 18) rfl (w.heap.size + 1) (fun _ => 0) _ rfl rfl hR ?_))
  intro w2 hR2 ho2
  go_wp2_with fail
  exact bodyPost_ret (results_blk2 rfl _ _ (w.heap.size + 1) _ rfl hR2) rfl ⟨by rw [headZ,HO.out];rfl,hL.trans (ho2.below (by omega))⟩
 by_cases h2:t ≤ 255
 rotate_left
 ·have HO:Hid (headOk s t = false):=by show _ = _;unfold headOk;simp [h2]
  rw [hq]
  clear hq
  go_wp2_with (first | (refine wp_storeBlk rfl (.tmp 2) (.tmp 18) rfl (w.heap.size + 1) (fun _ => 0) _ rfl rfl hR ?_))
  intro w2 hR2 ho2
  go_wp2_with fail
  exact bodyPost_ret (results_blk2 rfl _ _ (w.heap.size + 1) _ rfl hR2) rfl ⟨by rw [headZ,HO.out];rfl,hL.trans (ho2.below (by omega))⟩
 have HO:Hid (headOk s t = true):=by show _ = _;unfold headOk;rw [hq];simp [h1,h2]
 rw [hq]
 clear hq
 have hbs:=run_nums4
 have hrow:=nums4 W 4 s t nz
 have HROW:=Lib.hid hrow
 clear hrow
 go_wp2_with fail
 refine (rblock_any _ 4 4 (jw 4 s t nz) (jw_wds (by decide) (by omega) (by omega) nz_wds') (by decide) _ HROW.out).mono ?_
 rintro e w2 ⟨rfl,hb2⟩
 rw [wz_numR (l:=jw 4 s t nz) (fun k _ => by
  split
  ·rfl
  ·unfold jw nz;rw [if_neg (by omega),if_neg (by omega),if_neg (by omega),if_neg (by omega)])]
 have hR2:=(hR.alloc _).below hb2 (hR.alloc _).lt
 have hL2:Below w.heap.size w w2:=(hL.alloc hL.size _).trans (hb2.mono (hL.alloc hL.size _).size)
 clear hR hL hb2 c0 c1 hbs HROW
 go_wp2_with (first | (refine wp_storeBlk rfl (.tmp 2) (.tmp 25) rfl (w.heap.size + 1) (wz (jw 4 s t nz)) _ rfl rfl hR2 ?_))
 intro w3 hR3 ho3
 go_wp2_with fail
 exact bodyPost_ret (results_blk2 rfl _ _ (w.heap.size + 1) _ rfl hR3) rfl ⟨by rw [headZ,HO.out];rfl,hL2.trans (ho3.below (by omega))⟩
theorem own_only {W W':World} {base k p:Nat} {v:Value} {e:TypeId} {size:Nat} {xs:List Value} (h:W.ownsRow base e size v k xs) (ho:Only p W W') (hp:v.ownBlock ≠ some p):W'.ownsRow base e size v k xs:=by
 refine ⟨h.1,?_⟩
 rcases h.2 with h' | ⟨g',cap',cur,hv,hbb,hg,hr⟩
 ·exact .inl h'
 ·exact .inr ⟨g',cap',cur,hv,hbb,(ho.block g' (fun e => hp (by rw [hv,e];rfl))).trans hg,hr⟩
end Go.Proofs.YtphamecphmbipaaGreatDoor
