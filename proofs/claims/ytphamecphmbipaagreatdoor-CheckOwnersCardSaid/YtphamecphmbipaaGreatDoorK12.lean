/- Texts of this claim, merged by a program (a claim may have 60 files): Geo3, MkA, MkB, Geo4, MkC, MkD, MoveB, MkE, Tab, MoveBar, Pk1, Pk2, Pk3, Pk4, Pk6, Pk8, Pk7, Pk9, Pk10, Pk11, Pk12, Sc0, Pk13, Pk14, CopyL, Pk15, Pk16, Pk17, TabB, Pk18, Pk19. -/
import Derived.Test.YtphamecphmbipaaGreatDoorK07
import Derived.Test.YtphamecphmbipaaGreatDoorK10
import Derived.Test.YtphamecphmbipaaGreatDoorK06
import Derived.Test.YtphamecphmbipaaGreatDoorK08
import Derived.Test.YtphamecphmbipaaGreatDoorK11
import Derived.Test.YtphamecphmbipaaGreatDoorK05
import Derived.Test.YtphamecphmbipaaGreatDoorK04
import Derived.Test.YtphamecphmbipaaGreatDoorK09
import Derived.Laws.Tables
import Derived.Deep.DeepAppendRoom
import Derived.Laws.AppendOwnNone
import Derived.Laws.OwnMore
namespace Go.Proofs.YtphamecphmbipaaGreatDoor
open Go.RowKit
set_option linter.unusedVariables false
set_option maxHeartbeats 2000000 in
theorem geoBlocks_any (G S I J:Int) (w:World):Calls Tryz.prog 126 #[gval G S I J] w fun e w' => e = .returned (.int .i64 (nBl G S I J)) ∧ Below w.heap.size w w':=by
 have HA:=Lib.hid (At.new w 23 (gcells G S I J))
 have HL:Hid (Below w.heap.size w (w.alloc (.cells (gcells G S I J) 23))):=(Below.refl _ _).alloc (Nat.le_refl _) _
 go_enter Tryz.func126,Tryz.ntmps126
 have hA:=HA.out
 go_wp2_with (first | (refine wp_loadAtG rfl 23 _ rfl _ _ _ rfl hA Tryz.underlying23 rfl (by kernel_rfl) ?_))
 refine (geoMay_any G S I J _).mono ?_
 rintro e w1 ⟨rfl,hb1⟩
 have hA1:=hA.below hb1 hA.lt
 have hL1:Below w.heap.size w w1:=HL.out.trans (hb1.mono HL.out.size)
 clear hA HA HL hb1
 cases hm:mayG G S I J with
 | false =>
  have HN:Hid (nBl G S I J = 0):=by show _ = _;unfold nBl;rw [hm];rfl
  clear hm
  go_wp2_with fail
  go_ret
  exact ⟨by rw [HN.out];rfl,hL1⟩
 | true =>
  have HN:Hid (nBl G S I J = 2 + J + G * S):=by show _ = _;unfold nBl;rw [hm];rfl
  obtain ⟨h1,h2,h3,h4,h5,h6,h7,h8,h9,h10,h11⟩:=(mayG_iff G S I J).1 hm
  have hg0:0 ≤ G * S:=Int.mul_nonneg (by omega) (by omega)
  have hw:IntKind.i64.wrap (G * S) = G * S:=IntWalk.i64_in _ (by omega)
  have hw1:IntKind.i64.wrap (2 + J) = 2 + J:=IntWalk.i64_in _ (by omega)
  have hw2:IntKind.i64.wrap (2 + J + G * S) = 2 + J + G * S:=IntWalk.i64_in _ (by omega)
  have c0:w1.cell? ⟨w.heap.size,0,none⟩ = some (.int .i64 G):=hA1.cell (i:=0) rfl
  have c1:w1.cell? ⟨w.heap.size,1,none⟩ = some (.int .i64 S):=hA1.cell (i:=1) rfl
  have c3:w1.cell? ⟨w.heap.size,3,none⟩ = some (.int .i64 J):=hA1.cell (i:=3) rfl
  clear hm h11
  go_wp2_with fail
  go_ret
  exact ⟨by rw [HN.out];rfl,hL1⟩
def isGr (G S I J k:Int):Bool:=mayG G S I J && (decide (0 ≤ k) && decide (k < G))
def stGr (G S I J k:Int):Int:=if isGr G S I J k then 2 + J + k * S else 0
set_option maxHeartbeats 2000000 in
theorem geoStart_any (G S I J k:Int) (w:World):Calls Tryz.prog 18 #[gval G S I J,.int .i64 k] w fun e w' => e = .returned (.tuple #[.int .i64 (stGr G S I J k),.bool (isGr G S I J k)]) ∧ Below w.heap.size w w':=by
 have HA:=Lib.hid (At.new w 23 (gcells G S I J))
 have HL:Hid (Below w.heap.size w (w.alloc (.cells (gcells G S I J) 23))):=(Below.refl _ _).alloc (Nat.le_refl _) _
 go_enter Tryz.func18,Tryz.ntmps18
 have hA:=HA.out
 go_wp2_with (first | (refine wp_loadAtG rfl 23 _ rfl _ _ _ rfl hA Tryz.underlying23 rfl (by kernel_rfl) ?_))
 refine (geoMay_any G S I J _).mono ?_
 rintro e w1 ⟨rfl,hb1⟩
 have hA1:=hA.below hb1 hA.lt
 have hL1:Below w.heap.size w w1:=HL.out.trans (hb1.mono HL.out.size)
 clear hA HA HL hb1
 have c0:w1.cell? ⟨w.heap.size,0,none⟩ = some (.int .i64 G):=hA1.cell (i:=0) rfl
 have c1:w1.cell? ⟨w.heap.size,1,none⟩ = some (.int .i64 S):=hA1.cell (i:=1) rfl
 have c3:w1.cell? ⟨w.heap.size,3,none⟩ = some (.int .i64 J):=hA1.cell (i:=3) rfl
 cases hm:mayG G S I J with
 | false =>
  have HN:Hid (isGr G S I J k = false):=by show _ = _;unfold isGr;rw [hm];rfl
  clear hm
  go_wp2_with fail
  go_ret2
  exact ⟨by unfold stGr;rw [HN.out];rfl,hL1⟩
 | true =>
  obtain ⟨h1,h2,h3,h4,h5,h6,h7,h8,h9,h10,h11⟩:=(mayG_iff G S I J).1 hm
  have HD:Hid (isGr G S I J k = (decide (0 ≤ k) && decide (k < G))):=by show _ = _;unfold isGr;rw [hm];rfl
  clear hm h11
  by_cases k0:k < 0
  ·have HN:Hid (isGr G S I J k = false):=by show _ = _;rw [HD.out];simp;omega
   have q0:decide (k < 0) = true:=decide_eq_true k0
   go_wp2_with fail
   go_ret2
   exact ⟨by unfold stGr;rw [HN.out];rfl,hL1⟩
  have q0:decide (k < 0) = false:=decide_eq_false k0
  by_cases k1:G ≤ k
  ·have HN:Hid (isGr G S I J k = false):=by show _ = _;rw [HD.out];simp;omega
   have q1:decide (G ≤ k) = true:=decide_eq_true k1
   go_wp2_with fail
   go_ret2
   exact ⟨by unfold stGr;rw [HN.out];rfl,hL1⟩
  have q1:decide (G ≤ k) = false:=decide_eq_false k1
  have HN:Hid (isGr G S I J k = true):=by show _ = _;rw [HD.out];simp;omega
  have hg0:0 ≤ k * S:=Int.mul_nonneg (by omega) (by omega)
  have hg1:k * S ≤ 4 * 512:=Int.mul_le_mul (by omega) h4 (by omega) (by omega)
  have hw:IntKind.i64.wrap (k * S) = k * S:=IntWalk.i64_in _ (by omega)
  have hw1:IntKind.i64.wrap (2 + J) = 2 + J:=IntWalk.i64_in _ (by omega)
  have hw2:IntKind.i64.wrap (2 + J + k * S) = 2 + J + k * S:=IntWalk.i64_in _ (by omega)
  go_wp2_with fail
  go_ret2
  exact ⟨by unfold stGr;rw [HN.out];rfl,hL1⟩
structure HoG (w:World) (G S I J:Int) (W:World):Prop where
 g:At W w.heap.size 23 (gcells G S I J)
 bel:Below w.heap.size w W
theorem info_block3:(Tryz.prog.info? 32).map (fun i => (i.zero,i.size,i.bytes)) = some (some (bval fun _ => 0),256,256):=by kernel_rfl
theorem run_mkimage (n:Nat) (hn:n ≤ 2048) (W:World):(Instr.makeSlice 29 (.int .i64 (n:Int)) (.int .i64 (n:Int))).run Tryz.prog W = .ok (.slice (some ⟨W.heap.size,0,none⟩) n n) (W.alloc (.cells (madeCells (bval fun _ => 0).cells (n * 256)) 32)) :=
 run_mkrow (P:=Tryz.prog) 29 32 (bval fun _ => 0) 256 256 Tryz.underlying29 info_block3 .i64 .i64 n (by omega) (by omega) W
theorem image_made (w:World) (n:Nat):RArr (w.alloc (.cells (madeCells (bval fun _ => 0).cells (n * 256)) 32)) w.heap.size 32 256 n (fun _ => Ks .u8 256 (fun _ => 0)) :=
 RArr.made (m:=256) w (Ks .u8 256 (fun _ => 0)).toArray (by simp [Ks]) (by omega) n 32
def rootI:Ino:=⟨2,1,1,0,fun _ => 0,0⟩
def rootZ:Nat → Int:=over (fun _ => 0) 0 64 rootI.byte
def dkB (G S I J:Int):Nat → Int:=fun _ => nDa G S I J
def dkI (I:Int):Nat → Int:=fun i => if i = 0 then I - 1 else I
def dkD:Nat → Int:=fun i => if i = 0 then 1 else 0
def mk0 (g s i j:Nat) (b:Nat):Nat → Int :=
 if b = 0 then supZ g s i j 0 else if b = 1 then descZ g s i j g (dkB g s i j) (dkI i) dkD else if b = 2 then headZ 1 0
 else if b < 2 + j then fun _ => 0
 else if (b - (2 + j)) % s = 0 then bZ (mapB (2 + i / 4) s)
 else if (b - (2 + j)) % s = 1 then bZ (mapB (if (b - (2 + j)) / s = 0 then 1 else 0) i)
 else fun _ => 0
def mkB (g s i j:Nat) (b:Nat):Nat → Int:=if b = 2 + j + 2 then rootZ else mk0 g s i j b
theorem mayN {g s i j:Nat} (hm:mayG g s i j = true):1 ≤ g ∧ g ≤ 4 ∧ 16 ≤ s ∧ s ≤ 512 ∧ 4 ≤ i ∧ i ≤ 64 ∧ i % 4 = 0 ∧ 40 ≤ j ∧ j ≤ 256 ∧ 3 + i / 4 ≤ s ∧ 2 + j + g * s ≤ 2048:=by
 obtain ⟨h1,h2,h3,h4,h5,h6,h7,h8,h9,h10,h11⟩:=(mayG_iff g s i j).1 hm
 have e:((g * s:Nat):Int) = (g:Int) * (s:Int):=Int.natCast_mul _ _
 rw [← e] at h11
 omega
theorem supOk0 {G S I J:Int} (hm:mayG G S I J = true):supOk G S I J 0 = true:=by
 have:=nIn_bd G S I J
 unfold supOk;rw [hm];simp;omega
theorem mkMayD {g s i j:Nat} (hm:mayG g s i j = true):mayD g s i j g (dkB g s i j) (dkI i) dkD = true:=by
 obtain ⟨h1,h2,h3,h4,h5,h6,h7,h8,h9,h10,h11⟩:=mayN hm
 have:=nDa_bd g s i j
 unfold mayD
 rw [Bool.and_eq_true,decide_eq_true_eq,allB_iff]
 refine ⟨rfl,fun k hk => (okD_iff _ _ _ _ _).2 ?_⟩
 unfold dkB dkI dkD
 by_cases e:k = 0
 ·rw [if_pos e,if_pos e];omega
 ·rw [if_neg e,if_neg e];omega
theorem descOk0 {g s i j:Nat} (hm:mayG g s i j = true):descOk g s i j g (dkB g s i j) (dkI i) dkD = true:=by
 unfold descOk;rw [hm,mkMayD hm];rfl
theorem rootOk:putOk 0 rootI = true:=by decide
theorem rootIsOk:rootI.Ok:=⟨by decide,by decide,by decide,by decide,fun i => ⟨Int.le_refl 0,(by decide:(0:Int) < 4294967296)⟩,by decide⟩
end Go.Proofs.YtphamecphmbipaaGreatDoor

namespace Go.Proofs.YtphamecphmbipaaGreatDoor.Mv
open Go.RowKit Go.Proofs.YtphamecphmbipaaGreatDoor
set_option linter.unusedVariables false
section
variable {P:Program} {ops:Array Oper} {σ:Type} {C:σ → World → Prop}
theorem lin_callE {Q:σ → Act → Prop} {s:σ} {o:Oper} {rest:List Oper} {a:Act} (hw:Region.wanted o (yielded ops a.tmps) = true) (hm:mv o = true) (f:FuncId) (args:Array Value)
  (hrun:∀ W,(execOp a.eval o).run P W = .ok (.enter f args) W) (hcall:∀ W,C s W → Calls P f args W fun e w' => ∃ u s',e = .returned u ∧ C s' w' ∧ wpLin P ops C Q rest s' (a.put o.dst u)):wpLin P ops C Q (o :: rest) s a :=
 lin_move hw hm fun w hC => by
  rw [hrun]
  exact (hcall w hC).mono fun e w' ⟨u,s',h1,h2,h3⟩ => ⟨u,h1,s',h2,h3⟩
end
end Go.Proofs.YtphamecphmbipaaGreatDoor.Mv

namespace Go.Proofs.YtphamecphmbipaaGreatDoor
open Go.RowKit
set_option linter.unusedVariables false
section
variable {w:World} {G S I J:Int} {p1 p2 px q n:Nat} {zx zx':Nat → Int} {im im':Nat → Nat → Int} {W W':World}
end
structure MkImg (w:World) (g s i j q:Nat) (w':World):Prop where
 le:w.heap.size ≤ q
 a:RArr w' q 32 256 (2 + j + g * s) (fun b => Ks .u8 256 (mkB g s i j b))
 bel:Below w.heap.size w w'
end Go.Proofs.YtphamecphmbipaaGreatDoor

namespace Go.Proofs.YtphamecphmbipaaGreatDoor.Tb
open Go.RowKit
set_option linter.unusedVariables false
def inSt (sk:List (Nat × Nat × Nat)) (n:Nat):Bool:=sk.any fun x => x.2.2 == n
def inAl (sk:List (Nat × Nat × Nat)) (n:Nat):Bool:=sk.any fun x => x.1 == n
def readsT (o:Oper) (s:Nat):Bool:=o.op.operands.toList.any fun x => match x with | .tmp t => t == s | _ => false
section
variable {P:Program}
theorem eval_same {a b:Act} {x:Operand} (h:∀ s,x = .tmp s → a.tmps.getD s undef = b.tmps.getD s undef):a.eval x = b.eval x:=by
 cases x with
 | tmp t => exact h t rfl
 | const v => rfl
 | global g => rfl
 | func f => rfl
theorem reads_mem {o:Oper} {x:Operand} {s:Nat} (hx:x ∈ o.op.operands) (he:x = .tmp s):readsT o s = true:=by
 unfold readsT
 rw [List.any_eq_true]
 exact ⟨x,by simpa using hx,by rw [he];simp⟩
theorem walk_get {ops:Array Oper} {C:World → Prop} {A:Act}:∀ (l:List Oper) (a:Act),(∀ o ∈ l,o.guard = none ∧ (∀ cs b,o.op ≠ .select cs b) ∧ ∃ d,o.dst = some d ∧ d < a.tmps.size) → l.Pairwise (fun x y => x.dst ≠ y.dst ∧ (∀ d,y.dst = some d → readsT x d = false)) → (∀ o ∈ l,∀ d,o.dst = some d → readsT o d = false) →
  wpQuiet P ops C (fun a' => a' = A) l a → A.defers = a.defers ∧ A.tmps.size = a.tmps.size ∧ (∀ s,(∀ o ∈ l,o.dst ≠ some s) → A.tmps.getD s undef = a.tmps.getD s undef) ∧ ∀ o ∈ l,∀ d,o.dst = some d → ∀ w,C w → o.quietAt P A C w (A.tmps.getD d undef)
 | [],a,_,_,_,h => by
  have h:a = A:=h
  subst h
  exact ⟨rfl,rfl,fun _ _ => rfl,fun o ho => by cases ho⟩
 | o :: l,a,hg,hp,hr,h => by
  obtain ⟨hgo,hso,d,hd,hlt⟩:=hg o (by simp)
  obtain ⟨hp1,hp2⟩:=List.pairwise_cons.1 hp
  unfold wpQuiet at h
  rw [if_pos (by unfold Region.wanted;rw [hgo])] at h
  obtain ⟨v,hv,hk⟩:=h
  rw [hd] at hk
  obtain ⟨i1,i2,i3,i4⟩:=walk_get l (a.put (some d) v) (fun o' ho' => by
   obtain ⟨h1,h2,d',h3,h4⟩:=hg o' (by simp [ho'])
   exact ⟨h1,h2,d',h3,by rw [put_size];exact h4⟩) hp2 (fun o' ho' => hr o' (by simp [ho'])) hk
  have hAd:A.tmps.getD d undef = v:=by
   rw [i3 d (fun o' ho' e => (hp1 o' ho').1 (hd.trans e.symm))]
   exact put_same _ _ _ hlt
  have hoth:∀ s,(∀ o' ∈ o :: l,o'.dst ≠ some s) → A.tmps.getD s undef = a.tmps.getD s undef:=fun s hs => by
   rw [i3 s (fun o' ho' => hs o' (by simp [ho']))]
   exact put_other _ _ _ _ (fun e => hs o (by simp) (by rw [hd,e]))
  refine ⟨i1,i2.trans (put_size _ _ _),hoth,?_⟩
  intro o' ho' d' hd' w hw
  rcases List.mem_cons.1 ho' with rfl | ho'
  ·have e:d = d':=by rw [hd] at hd';injection hd'
   subst e
   rw [hAd]
   have:=hv w hw
   unfold Oper.quietAt at this ⊢
   rw [execOp_congr (ρ:=A.eval) (ρ':=a.eval) o' hso fun x hx => eval_same fun s hs => ?_]
   ·exact this
   ·refine hoth s fun o2 ho2 e => ?_
    have h1:=reads_mem hx hs
    rcases List.mem_cons.1 ho2 with rfl | ho2
    ·rw [hr o2 (by simp) s e] at h1;cases h1
    ·rw [(hp1 o2 ho2).2 s e] at h1;cases h1
  ·exact i4 o' ho' d' hd' w hw
structure Ok (md:Region.Mode) (L:List Oper) (sk:List (Nat × Nat × Nat)) (i:Nat) (o:Oper):Prop where
 g:o.guard = none
 s:∀ cs b,o.op ≠ .select cs b
 r:∀ j oj d,L[j]? = some oj → oj.dst = some d → readsT o d = true → ∃ e ∈ o.after,Region.binds md e = true ∧ e.on = j
 d:∀ j oj d,L[j]? = some oj → oj.dst = some d → j ≠ i → o.dst ≠ some d
 a:∀ j oj d,L[j]? = some oj → oj.dst = some d → inAl sk j = true → inSt sk i = false → readsT o d = false
 st:inSt sk i = true → o.dst = none ∧ inAl sk i = false ∧ ∀ x ∈ sk,x.2.2 = i → ∃ e ∈ o.after,Region.binds md e = true ∧ e.on = x.1
 ns:inSt sk i = false → (∃ d,o.dst = some d) ∧ ∀ x ∈ sk,(x.1 = i → o.dst = some x.2.1) ∧ (x.1 ≠ i → o.dst ≠ some x.2.1)
theorem steps_of {md:Region.Mode} {ops:Array Oper} {Q:Exit → Act → World → Prop} {I:(Nat → Bool) → Act → World → Prop}:∀ (l:List Oper) (n:Nat),(∀ i o,l[i]? = some o → ∀ l' a w,l' (n + i) = false → upB md o l' = true → I l' a w → wpOp P ops Q (n + i) (I (fun j => j == (n + i) || l' j)) a w) → StepsI P md ops Q I n l
 | [],_,_ => trivial
 | o :: l,n,h => ⟨fun l' a w h1 h2 h3 => h 0 o rfl l' a w h1 h2 h3,steps_of l (n + 1) fun i o' hi l' a w h1 h2 h3 => by
   have:=h (i + 1) o' (by simpa using hi) l' a w (by rw [show n + (i + 1) = n + 1 + i by omega];exact h1) h2 h3
   rwa [show n + (i + 1) = n + 1 + i by omega] at this⟩
theorem up_of {md:Region.Mode} {o:Oper} {l:Nat → Bool} (h:upB md o l = true) {e:Edge} (he:e ∈ o.after) (hb:Region.binds md e = true):l e.on = true:=by
 unfold upB at h
 rw [Array.all_eq_true'] at h
 have:=h e he
 rwa [hb,Bool.not_true,Bool.false_or] at this
end
end Go.Proofs.YtphamecphmbipaaGreatDoor.Tb

namespace Go.Proofs.YtphamecphmbipaaGreatDoor
open Go.RowKit
set_option linter.unusedVariables false
section
variable {P:Program} {md:Region.Mode} {ops:Array Oper}
theorem bar_head3 {σ:Type} {n:Nat} {ops1:Array Oper} {l2:List Oper} {C:σ → World → Prop} (hb:barB2 md n ops = true) (hd:downB md ops = true) (hd1:downB md ops1 = true) (hn1:ops1.size = n) (h1:∀ i,i < n → ops1[i]? = ops[i]?) (hl:∀ j,l2[j]? = ops[n + j]?)
  {Q:Exit → Act → World → Prop} {Q1:σ → Act → Prop} (hQ:∀ s a w,C s w → Q1 s a → wpList P ops Q l2 a w):∀ (fuel:Nat) (listed1 listed:Array Bool) (s:σ) (a:Act) (w:World),C s w → Mv.Cl md ops listed → listed1.size = n → listed.size = ops.size →
   (∀ i,i < n → listed1[i]? = listed[i]?) → (∀ i,n ≤ i → i < ops.size → listed.getD i true = false) → Mv.wpAnyL P md ops1 C Q1 fuel listed1 s a → wpAny P md ops Q (l2.length + fuel) listed a w:=by
 have hnn:n ≤ ops.size:=by
  rcases Nat.lt_or_ge ops.size n with h | h
  ·have:=h1 ops.size h
   rw [Array.getElem?_eq_none (Nat.le_refl _),Array.getElem?_eq_none_iff] at this
   omega
  ·exact h
 have done:∀ (fuel:Nat) (listed1 listed:Array Bool) (s:σ) (a:Act) (w:World),C s w → listed1.size = n → listed.size = ops.size → (∀ i,i < n → listed1[i]? = listed[i]?) → (∀ i,n ≤ i → i < ops.size → listed.getD i true = false) →
   Region.ready md ops1 listed1 = [] → Q1 s a → wpAny P md ops Q (l2.length + fuel) listed a w:=fun fuel listed1 listed s a w hw hs1 hs hll h0 hr hq => by
  refine bar_tail2 hb hd l2 n fuel listed a w (Nat.le_refl _) hl hs (fun i hi => ?_) h0 (hQ s a w hw hq)
  have:=ready_nil hd1 (by omega) hr i (by omega)
  rw [Array.getD_eq_getD_getElem?,hll i hi,← Array.getD_eq_getD_getElem?] at this
  exact this
 intro fuel
 induction fuel with
 | zero => intro listed1 listed s a w hw hcl hs1 hs hll h0 h;exact done 0 listed1 listed s a w hw hs1 hs hll h0 h.1 h.2
 | succ fuel ih =>
  intro listed1 listed s a w hw hcl hs1 hs hll h0 h
  by_cases hr:Region.ready md ops1 listed1 = []
  ·exact done _ listed1 listed s a w hw hs1 hs hll h0 hr (h.1 hr)
  ·obtain ⟨i0,hi0⟩:=List.exists_mem_of_ne_nil _ hr
   obtain ⟨hu0,o0,ho0,hall0⟩:=mem_ready.1 hi0
   have hi0n:i0 < n:=by rw [← hn1];exact (Array.getElem?_eq_some_iff.1 ho0).1
   have get:∀ i,i < n → ∀ d,listed1.getD i d = listed.getD i d:=fun i hi d => by rw [Array.getD_eq_getD_getElem?,Array.getD_eq_getD_getElem?,hll i hi]
   have up:i0 ∈ Region.ready md ops listed:=mem_ready.2 ⟨by rw [← get i0 hi0n];exact hu0,o0,by rw [← h1 i0 hi0n];exact ho0,fun e he hbe => by
    have hlt:=downB_spec hd1 ho0 he hbe
    rw [← get e.on (by omega)];exact hall0 e he hbe⟩
   rw [show l2.length + (fuel + 1) = (l2.length + fuel) + 1 by omega]
   refine ⟨fun hrr => (by rw [hrr] at up;cases up),fun i hi => ?_⟩
   obtain ⟨hu,o,ho,hall⟩:=mem_ready.1 hi
   have hin:i < n:=by
    rcases Nat.lt_or_ge i n with hh | hh
    ·exact hh
    ·have hx:=hcl.reach hall ho (barB_wait2 hb ho hh (i:=i0) (by omega))
     rw [← get i0 hi0n] at hx
     rw [Array.getD_eq_getD_getElem?,Array.getElem?_eq_getElem (by omega)] at hx hu0
     simp at hx hu0
     rw [hx] at hu0;cases hu0
   have ho1:ops1[i]? = some o:=by rw [h1 i hin];exact ho
   have hi1:i ∈ Region.ready md ops1 listed1:=mem_ready.2 ⟨by rw [get i hin];exact hu,o,ho1,fun e he hbe => by
    have hlt:=downB_spec hd1 ho1 he hbe
    rw [get e.on (by omega)];exact hall e he hbe⟩
   have hq:=h.2 i hi1
   have hwant:∀ a:Act,Region.wanted o (yielded ops1 a.tmps) = Region.wanted o (yielded ops a.tmps):=fun a => by
    unfold Region.wanted
    cases hg:o.guard with
    | none => rfl
    | some p =>
     obtain ⟨g,b⟩:=p
     have:=barB_guard2 hb ho hin hg
     simp only [yielded,h1 g this]
   have hq':Mv.linOp P ops C i (Mv.wpAnyL P md ops1 C Q1 fuel (listed1.setIfInBounds i true)) s a:=by
    unfold Mv.linOp at hq ⊢
    simp only [ho1] at hq
    simp only [ho]
    unfold Mv.LX at hq ⊢
    rw [← hwant]
    exact hq
   refine Mv.wpOp_of_lin hw (fun s' a' w' hw' h' => ih (listed1.setIfInBounds i true) (listed.setIfInBounds i true) s' a' w' hw' (hcl.next hi) (by simpa using hs1) (by simpa using hs) (fun j hj => ?_) (fun j hj hjs => ?_) h') hq'
   ·by_cases hji:i = j
    ·subst hji;simp [hs1,hs,hj,show i < ops.size by omega]
    ·rw [Array.getElem?_setIfInBounds_ne hji,Array.getElem?_setIfInBounds_ne hji];exact hll j hj
   ·rw [Array.getD_eq_getD_getElem?,Array.getElem?_setIfInBounds_ne (by omega),← Array.getD_eq_getD_getElem?];exact h0 j hj hjs
theorem wp_region_mb {σ:Type} (C:σ → World → Prop) (s:σ) (n:Nat) {id:Nat} {Q:Exit → Act → World → Prop} {a:Act} {w:World} {L:List Oper} (hm:P.follows .mixedOrders = true) (hB:Region.lexB .any (L.take n).toArray = true) (hch:Mv.chainC .any (L.take n).toArray = true)
  (hb:barB2 .any n L.toArray = true) (hd:downB .any L.toArray = true) (hd1:downB .any (L.take n).toArray = true) (hn:n ≤ L.length) (hC:C s { w with drawn:=w.drawn + 1 })
  (h:Nonempty (InW fun w => ∃ s,C s w) → Mv.wpLin P (L.take n).toArray C (fun s a' => ∀ w',C s w' → wpList P L.toArray Q (L.drop n) a' w') (L.take n) s a):(Code.region id L.toArray true).wp P Q a w:=by
 simp only [Region.lexB,Bool.and_eq_true] at hB
 have hlen:(L.take n).length = n:=by simp [Nat.min_eq_left hn]
 have hq:=Mv.wpAnyL_lexC (P:=P) (C:=C) (md:=.any) Mv.calls_some hch (Q:=fun s a' => ∀ w',C s w' → wpList P L.toArray Q (L.drop n) a' w') hB.1 (L.take n) 0 (Array.replicate n false) s a ⟨_,hC⟩ (fun j oj hj hl => by
   rcases Nat.lt_or_ge j n with h' | h'
   ·simp [h'] at hl
   ·simp [h'] at hl) (fun j hj => by omega) (by simp) (by have:=hB.2;simpa [Nat.min_eq_left hn] using this) (h ⟨⟨_,s,hC⟩⟩)
 rw [hlen] at hq
 have:=bar_head3 (P:=P) (md:=.any) (ops:=L.toArray) (ops1:=(L.take n).toArray) (l2:=L.drop n) (n:=n) (C:=C) hb hd hd1 (by simp [Nat.min_eq_left hn]) (fun i hi => by simp [hi]) (fun j => by simp)
  (Q:=Q) (Q1:=fun s a' => ∀ w',C s w' → wpList P L.toArray Q (L.drop n) a' w') (fun s a w hw h => h w hw) n (Array.replicate n false) (Array.replicate L.length false) s a { w with drawn:=w.drawn + 1 } hC (fun j oj hj hl e he hbe => by
   rcases Nat.lt_or_ge j L.length with h' | h'
   ·simp [h'] at hl
   ·simp [h'] at hl) (by simp) (by simp)
  (fun i hi => by simp [hi,show i < L.length by omega]) (fun i hi hs => by simp at hs;simp [hs]) hq
 rw [show (L.drop n).length + n = L.length by simp;omega] at this
 refine wp_region_any hm ?_
 simpa using this
end
theorem RRow.only {W W':World} {a:Option Addr} {m n p:Nat} {f:Nat → List Value} (h:RRow W a m n f) (ho:Only p W W') (hne:∀ b off,a = some ⟨b,off,none⟩ → b ≠ p):RRow W' a m n f:=by
 rcases h with h | ⟨b,off,rfl,h⟩
 ·exact .inl h
 ·exact .inr ⟨b,off,rfl,fun i hi j v hj => (ho.cell (p:=⟨b,off + i * m + j,none⟩) (hne b off rfl)).trans (h i hi j v hj)⟩
theorem zero_bytJ:Byt (fun _ => 0):=fun _ => ⟨Int.le_refl 0,(by decide:(0:Int) < 256)⟩
end Go.Proofs.YtphamecphmbipaaGreatDoor

namespace Go.Proofs.YtphamecphmbipaaGreatDoor
open Go.RowKit Go.Shelf
set_option linter.unusedVariables false
attribute [local go_sem] Oper.semAt_some
section
variable {w:World} {t:Tr} {ca:Option Addr} {cc:Nat} {ra:Option Addr} {rc q p5 p6 cnt cap:Nat} {W W':World}
end
theorem At.grownQ {W W1:World} {q g:Nat} {T:TypeId} {cs:Array Value} (h:At W g T cs) (hg:W.grownBy W1 (some q)) (hne:g ≠ q):At W1 g T cs:=(hg.block _ h.lt (by intro e;injection e with e;exact hne e)).trans h
end Go.Proofs.YtphamecphmbipaaGreatDoor

namespace Go.Proofs.YtphamecphmbipaaGreatDoor
open Go.RowKit
set_option linter.unusedVariables false
def tr0 (s:Int):Tr:=⟨s,0,fun _ => 0,fun _ _ => 0,0,fun _ => 0⟩
section
variable {w:World} {la:Option Addr} {N:Nat} {L:Nat → Nat → Int} {n m:Nat} {s:Int} {cb:Nat → Int} {cd:Nat → Nat → Int} {rv:Nat → Int} {ca:Option Addr} {cc:Nat} {ra:Option Addr} {rc:Nat} {W W':World}
end
theorem AtGrown {W W1:World} {g:Nat} {T:TypeId} {cs:Array Value} {row:Option Nat} (h:At W g T cs) (hg:W.grownBy W1 row) (hne:row ≠ some g):At W1 g T cs:=(hg.block _ h.lt (fun e => hne e.symm)).trans h
theorem info_int3:(Tryz.prog.info? 3).map (fun i => (i.zero,i.size,i.bytes)) = some (some (.int .i64 0),1,8):=by kernel_rfl
theorem info_intP:∃ i,Tryz.prog.info? 3 = some i ∧ i.zero = some (.int .i64 0) ∧ i.size = 1 ∧ i.bytes = 8:=by
 obtain ⟨i,hi,hz⟩:=Option.map_eq_some_iff.1 info_int3
 simp only [Prod.mk.injEq] at hz
 exact ⟨i,hi,hz.1,hz.2.1,hz.2.2⟩
structure POk (t:Tr) (s:Int) (K:Nat):Prop where
 s:t.s = s
 cb:∀ i,0 ≤ t.cb i ∧ t.cb i < 4294967296
 cd:∀ i,Byt (t.cd i)
 rv:∀ i,0 ≤ t.rv i ∧ t.rv i < 4294967296
 n:t.n ≤ K
 m:t.m ≤ 60 * K
 cb0:∀ i,t.n ≤ i → t.cb i = 0
 rv0:∀ i,t.m ≤ i → t.rv i = 0
theorem POk.ok {t:Tr} {s:Int} {n:Nat} (h:POk t s n) (hs:0 ≤ s ∧ s < 4294967296) (hn:n ≤ 255):t.Ok :=
 ⟨by rw [h.s];exact hs,fun i => by have:=h.cb i;omega,h.cd,fun i => by have:=h.rv i;omega,by have:=h.n;omega,by have:=h.m;omega,h.cb0,h.rv0⟩
theorem POk.zero (s:Int):POk (tr0 s) s 0:=⟨rfl,fun i => ⟨Int.le_refl 0,(by decide:(0:Int) < 4294967296)⟩,fun i => zero_bytJ,fun i => ⟨Int.le_refl 0,(by decide:(0:Int) < 4294967296)⟩,Nat.le_refl _,Nat.le_refl _,fun i _ => rfl,fun i _ => rfl⟩
theorem RRow.take {w:World} {a:Option Addr} {m n:Nat} {f:Nat → List Value} (h:RRow w a m n f) (k:Nat) (hk:k ≤ n):RRow w a m k f:=by
 rcases h with h | ⟨b,off,rfl,h⟩
 ·exact .inl (by omega)
 ·exact .inr ⟨b,off,rfl,fun i hi => h i (by omega)⟩
section
variable {t:Tr} {L:Nat → Nat → Int} {N:Nat}
end
section
variable {L:Nat → Nat → Int} {N:Nat}
end
section
variable {w:World} {s:Int} {la:Option Addr} {n:Nat} {rb rf:Nat → Int} {rm:Nat → Bool} {rv:Nat → Int} {p k m:Nat} {ca:Option Addr} {cc:Nat} {ra:Option Addr} {rc:Nat} {W W':World}
end
end Go.Proofs.YtphamecphmbipaaGreatDoor

namespace Go.Proofs.YtphamecphmbipaaGreatDoor.Tb
open Go.RowKit
set_option linter.unusedVariables false
end Go.Proofs.YtphamecphmbipaaGreatDoor.Tb

namespace Go.Proofs.YtphamecphmbipaaGreatDoor
open Go.RowKit
set_option linter.unusedVariables false
section
variable {w:World} {t:Tr} {ca:Option Addr} {cc:Nat} {ra:Option Addr} {rc:Nat} {la:Option Addr} {cnt lc:Nat} {W W':World}
end
def chF (xb xt xo:Nat → Int) (i:Nat):List Value:=[.int .i64 (xb i),.int .i64 (xt i),.int .u8 (xo i)]
theorem RMine.take {W:World} {base:Nat} {e:TypeId} {m:Nat} {a:Option Addr} {n cap:Nat} {f:Nat → List Value} (h:RMine W base e m (.slice a n cap) n f) (hf:∀ i,(f i).length = m) {k:Nat} (hk:k ≤ n):RMine W base e m (.slice a k cap) k f:=by
 refine ⟨Cs_length hf k,?_⟩
 rcases h.2 with ⟨hv,h0⟩ | ⟨g,cap',cur,hv,hb,hg,hn,hc,hs,ht⟩
 ·injection hv with h1 h2 h3
  have hk0:k = 0:=by omega
  subst h1 h3 hk0
  exact .inl ⟨rfl,rfl⟩
 ·injection hv with h1 h2 h3
  subst h1 h3
  refine .inr ⟨g,cap,cur,rfl,hb,hg,by omega,hc,hs,?_⟩
  have h1:k * m ≤ n * m:=Nat.mul_le_mul_right m hk
  have h2:cur.toList.take (k * m) = (Cs f n).take (k * m):=by rw [← ht,List.take_take,Nat.min_eq_left h1]
  rw [h2]
  have h3:Cs f n = Cs f k ++ Cs (fun i => f (k + i)) (n - k):=by rw [Cs_cat];congr 1;omega
  rw [h3,List.take_left' (Cs_length hf k)]
end Go.Proofs.YtphamecphmbipaaGreatDoor
