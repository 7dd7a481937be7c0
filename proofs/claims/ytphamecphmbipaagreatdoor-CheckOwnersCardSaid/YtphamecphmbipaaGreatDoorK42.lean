/- Texts of this claim, merged by a program (a claim may have 60 files): Ck4, CkO, CkP. -/
import Derived.Test.YtphamecphmbipaaGreatDoorK39
import Derived.Test.YtphamecphmbipaaGreatDoorK41
import Derived.Defers
import Derived.Recover
import Derived.Test.YtphamecphmbipaaGreatDoorK34
namespace Go.Proofs.YtphamecphmbipaaGreatDoor
open Go.RowKit
set_option linter.unusedVariables false
namespace Im
theorem ck4_may {x:Im} {t:Nat} (h:x.ck4 t = true) (h1:1 ≤ t) (h2:t ≤ x.ni):(x.ino t).May:=by
 unfold ck4 at h
 rw [Bool.and_eq_true,beq_iff_eq] at h
 have h0:=h.1
 unfold getErr at h0
 unfold ino
 rw [if_pos ⟨h1,h2⟩]
 unfold getIno
 split at h0
 ·rename_i hp
  split at h0
  ·rename_i hg
   rw [if_pos hp,if_pos hg]
   unfold getOkB at hg
   simp only [Bool.and_eq_true,decide_eq_true_eq] at hg
   exact hg.2.2
  ·cases h0
 ·cases h0
theorem all_may {x:Im} (h:allB (fun t => x.ck4 (t + 1)) x.ni = true) (t:Nat) (h1:1 ≤ t) (h2:t ≤ x.ni):(x.ino t).May:=by
 have:=(allB_iff _ _).1 h (t - 1) (by omega)
 rw [show t - 1 + 1 = t by omega] at this
 exact ck4_may this h1 h2
end Im
set_option maxRecDepth 100000 in
set_option maxHeartbeats 2000000 in
theorem ckCatch_any (g:Nat) (x k:Int) (w:World) (hc:w.cell? ⟨g,0,none⟩ = some (.int .i64 x)) (hz:w.frozen? ⟨g,0,none⟩ = false) :
  CallsD Tryz.prog 75 #[.pointer (some ⟨g,0,none⟩)] (.panicking (brk k)) w fun e u' w' =>
   e = .returned (.tuple #[]) ∧ u' = .panicking [{ v:=.iface 158 (.int .i64 k),recovered:=true }] ∧ w' = w.setCell ⟨g,0,none⟩ (.int .i64 k):=by
 refine callsD_of_wpS Tryz.func75 rfl fun c₀ cs hu => ?_
 apply wpS_seq
 apply wpS_region
 simp [wpOpsS,go_sem,recoverD,hu,brk,Tryz.ntmps75,Exit.thenS]
 apply wpS_seq
 apply wpS_region
 simp [wpOpsS,go_sem,Exit.thenS]
 refine wpS_cond (t:=true) (by simp [Act.eval,Array.replicate]) ?_
 simp only [if_true]
 refine wpS_of_wp ?_
 simp only [Array.replicate,List.replicate,List.setIfInBounds_toArray,List.append_toArray,List.set_cons_succ,List.set_cons_zero,List.cons_append,List.nil_append]
 have hta:∀ W,(Instr.typeAssert (.iface 158 (.int .i64 k)) 20 158 true).run Tryz.prog W = .ok (.tuple #[.int .i64 k,.bool true]) W:=fun W => by kernel_rfl
 go_wp2_with fail
 simp [bodyPostS,results,Tryz.results75]
theorem ckCatch_idle (g:Nat) (w:World) :
  CallsD Tryz.prog 75 #[.pointer (some ⟨g,0,none⟩)] .returning w fun e u' w' => e = .returned (.tuple #[]) ∧ u' = .returning ∧ w' = w:=by
 refine callsD_of_wpS Tryz.func75 rfl fun c₀ cs hu => ?_
 apply wpS_seq
 apply wpS_region
 simp [wpOpsS,go_sem,recoverD,hu,Tryz.ntmps75,Exit.thenS]
 apply wpS_seq
 apply wpS_region
 simp [wpOpsS,go_sem,Exit.thenS]
 refine wpS_cond (t:=false) (by simp [Act.eval,Array.replicate]) ?_
 simp only [Bool.false_eq_true,if_false]
 refine wpS_of_wp (wp_skip ?_)
 cases c₀
 simp_all [bodyPostS,results,Tryz.results75]
theorem zero_exam (W:World):(zeroValue 105).run Tryz.prog W = .ok (.agg (X0 (.slice none 0 0))) W:=by kernel_rfl
set_option maxRecDepth 100000 in
theorem ex_results {tmps:Array Value} {p R:Nat} {W:World} {k:Int} (h2:tmps[2]?.getD undef = .pointer (some ⟨p,0,none⟩)) (h3:tmps[3]?.getD undef = .pointer (some ⟨R,0,none⟩)) (hR:W.cell? ⟨R,0,none⟩ = some (.int .i64 k)) :
  (results Tryz.f37 tmps).run Tryz.prog W = .ok (.tuple #[.pointer (some ⟨p,0,none⟩),.int .i64 k]) W:=by
 simp [results,Tryz.results37,go_sem,h2,h3,hR]
set_option maxRecDepth 100000 in
theorem ex_thrown {tmps:Array Value} {p R:Nat} {W:World} {k:Int} {Q:Ending → World → Prop} (h2:tmps[2]?.getD undef = .pointer (some ⟨p,0,none⟩)) (h3:tmps[3]?.getD undef = .pointer (some ⟨R,0,none⟩)) (hR:At W R 3 #[.int .i64 0])
  (hQ:Q (.returned (.tuple #[.pointer (some ⟨p,0,none⟩),.int .i64 k])) (W.setCell ⟨R,0,none⟩ (.int .i64 k))) :
  Leaves Tryz.prog Tryz.f37 tmps Q [{ target:=.fn (.func 75) #[.pointer (some ⟨R,0,none⟩)],args:=#[] }] (.panicking (brk k)) W:=by
 refine leaves_cons (f:=75) (args:=#[.pointer (some ⟨R,0,none⟩)]) (by simp) (by simp [go_sem]) ?_
 refine (ckCatch_any R 0 k W (hR.cell (i:=0) rfl) (soft_of_heap hR 0)).mono ?_
 rintro e u' w'' ⟨rfl,rfl,rfl⟩
 exact ⟨_,ex_results h2 h3 ((hR.setCell 0 (.int .i64 k)).cell (i:=0) rfl),hQ⟩
theorem ex_back {tmps:Array Value} {p R:Nat} {W:World} {k:Int} {Q:Ending → World → Prop} (h2:tmps[2]?.getD undef = .pointer (some ⟨p,0,none⟩)) (h3:tmps[3]?.getD undef = .pointer (some ⟨R,0,none⟩)) (hR:W.cell? ⟨R,0,none⟩ = some (.int .i64 k))
  (hQ:Q (.returned (.tuple #[.pointer (some ⟨p,0,none⟩),.int .i64 k])) W) :
  Leaves Tryz.prog Tryz.f37 tmps Q [{ target:=.fn (.func 75) #[.pointer (some ⟨R,0,none⟩)],args:=#[] }] .returning W:=by
 refine leaves_cons (f:=75) (args:=#[.pointer (some ⟨R,0,none⟩)]) (by simp) (by simp [go_sem]) ?_
 refine (ckCatch_idle R W).mono ?_
 rintro e u' w'' ⟨rfl,rfl,rfl⟩
 exact ⟨_,ex_results h2 h3 hR,hQ⟩
set_option maxRecDepth 100000 in
set_option maxHeartbeats 2000000 in
theorem ckExamine_none (a:Option Addr) (cap:Nat) (L:Nat → Nat → Int) (w:World):Calls Tryz.prog 37 #[.slice a 0 cap] w fun e w' => (∃ p,e = .returned (.tuple #[.pointer (some ⟨p,0,none⟩),.int .i64 1])) ∧ Below w.heap.size w w':=by
 have hmf:∀ (fn:Fn) (first cap:Array Value) (w:World),(Instr.makeFunc fn first cap).run Tryz.prog w = .ok (.func fn first cap) w:=fun _ _ _ _ => rfl
 have hz:=zero_exam
 have hA:=At.new (w.alloc (.cells #[.int .i64 0] 3)) 105 (X0 (.slice a 0 cap))
 have hG:=(At.new w 3 #[.int .i64 0]).alloc (.cells (X0 (.slice a 0 cap)) 105)
 rw [World.size_alloc] at hA
 go_enter_defers Tryz.func37,Tryz.ntmps37
 go_wp2_with fail
 refine (ckHead_none (w.heap.size + 1) cap a L _ hA).mono ?_
 rintro e w1 ⟨_,rfl,rfl⟩
 refine leaves_cons (f:=75) (args:=#[.pointer (some ⟨w.heap.size,0,none⟩)]) (by simp) (by simp [go_sem]) ?_
 refine (ckCatch_any w.heap.size 0 1 _ (hG.cell (i:=0) rfl) (soft_of_heap hG 0)).mono ?_
 rintro e u' w'' ⟨rfl,rfl,rfl⟩
 simp [Leaves,settle,results,Tryz.results37,go_sem]
 exact ((Below.refl _ _).alloc (Nat.le_refl _) _).alloc (by simp) _
namespace Im
variable {x:Im}
theorem exam_1 (h:x.ck1 = false):x.exam = (1,fun _ => 0):=by unfold exam;rw [if_pos h]
theorem exam_2 (h1:x.ck1 = true) (h:x.ck2 = false):x.exam = (2,fun _ => 0):=by unfold exam;rw [if_neg (by rw [h1];decide),if_pos h]
def ex9 (x:Im) (o:Nat → Nat) (u:Nat → List Nat):Nat × (Nat → Nat) :=
 if allB (fun t => x.ck10 u (t + 1)) x.ni = false then (10,fun _ => 0) else if allB (x.ck11 (x.reach u)) (x.ni + 1) = false then (11,fun _ => 0)
    else if allB x.ck12 x.g = false then (12,fun _ => 0) else (0,o)
def ex7 (x:Im) (o:Nat → Nat):Nat × (Nat → Nat):=if allB (x.ck8 o) x.g = false then (8,fun _ => 0) else match x.dirs with
   | none => (9,fun _ => 0)
   | some u => ex9 x o u
def ex6 (x:Im) (m:Nat → Bool):Nat × (Nat → Nat):=match x.trees m with
  | none => (7,fun _ => 0)
  | some o => ex7 x o
def ex5 (x:Im):Nat × (Nat → Nat):=match x.orph with
 | none => (6,fun _ => 0)
 | some m => if allB (fun t => x.ck6 m (t + 1)) x.ni = false then (6,fun _ => 0) else ex6 x m
theorem exam_12 (h1:x.ck1 = true) (h2:x.ck2 = true):x.exam = if allB x.ck3 x.g = false then (3,fun _ => 0)
 else if allB (fun t => x.ck4 (t + 1)) x.ni = false then (4,fun _ => 0) else if (x.ino 1).kind ≠ 2 then (5,fun _ => 0) else ex5 x:=by
 unfold exam;rw [if_neg (by rw [h1];decide),if_neg (by rw [h2];decide)];rfl
theorem exam_3 (h1:x.ck1 = true) (h2:x.ck2 = true) (h:allB x.ck3 x.g = false):x.exam = (3,fun _ => 0):=by rw [exam_12 h1 h2,if_pos h]
theorem exam_4 (h1:x.ck1 = true) (h2:x.ck2 = true) (h3:allB x.ck3 x.g = true) (h:allB (fun t => x.ck4 (t + 1)) x.ni = false):x.exam = (4,fun _ => 0):=by
 rw [exam_12 h1 h2,if_neg (by rw [h3];decide),if_pos h]
theorem exam_5 (h1:x.ck1 = true) (h2:x.ck2 = true) (h3:allB x.ck3 x.g = true) (h4:allB (fun t => x.ck4 (t + 1)) x.ni = true) (h:((x.ino 1).kind == 2) = false):x.exam = (5,fun _ => 0):=by
 rw [exam_12 h1 h2,if_neg (by rw [h3];decide),if_neg (by rw [h4];decide),if_pos (fun e => by rw [e] at h;cases h)]
structure To5 (x:Im):Prop where
 h1:x.ck1 = true
 h2:x.ck2 = true
 h3:allB x.ck3 x.g = true
 h4:allB (fun t => x.ck4 (t + 1)) x.ni = true
 h5:((x.ino 1).kind == 2) = true
theorem To5.exam (h:To5 x):x.exam = ex5 x:=by
 rw [exam_12 h.h1 h.h2,if_neg (by rw [h.h3];decide),if_neg (by rw [h.h4];decide),if_neg (fun e => e (by have:=h.h5;rwa [beq_iff_eq] at this))]
theorem To5.no6 (h:To5 x) (k:x.ok6 = false):x.exam = (6,fun _ => 0):=by
 rw [h.exam]
 unfold ok6 at k
 unfold ex5
 cases ho:x.orph with
 | none => rfl
 | some m => rw [ho] at k;exact if_pos k
theorem To5.to6 (h:To5 x) (k:x.ok6 = true) {m:Nat → Bool} (hm:x.orph = some m):x.exam = ex6 x m:=by
 rw [h.exam]
 unfold ex5
 rw [hm]
 unfold ok6 at k
 rw [hm] at k
 replace k:allB (fun t => x.ck6 m (t + 1)) x.ni = true:=k
 show (if allB (fun t => x.ck6 m (t + 1)) x.ni = false then _ else _) = _
 rw [if_neg (by rw [k];decide)]
structure To7 (x:Im) (o:Nat → Nat):Prop where
 e:x.exam = ex7 x o
theorem To5.no7 (h:To5 x) (k:x.ok6 = true) {m:Nat → Bool} (hm:x.orph = some m) (ht:x.trees m = none):x.exam = (7,fun _ => 0):=by rw [h.to6 k hm];unfold ex6;rw [ht]
theorem To5.to7 (h:To5 x) (k:x.ok6 = true) {m:Nat → Bool} (hm:x.orph = some m) {o:Nat → Nat} (ht:x.trees m = some o):To7 x o:=⟨by rw [h.to6 k hm];unfold ex6;rw [ht]⟩
theorem To7.no8 {o:Nat → Nat} (h:To7 x o) (k:allB (x.ck8 o) x.g = false):x.exam = (8,fun _ => 0):=by rw [h.e];unfold ex7;rw [if_pos k]
theorem To7.no9 {o:Nat → Nat} (h:To7 x o) (k:allB (x.ck8 o) x.g = true) (hd:x.dirs = none):x.exam = (9,fun _ => 0):=by rw [h.e];unfold ex7;rw [if_neg (by rw [k];decide),hd]
structure To9 (x:Im) (o:Nat → Nat) (u:Nat → List Nat):Prop where
 e:x.exam = ex9 x o u
theorem To7.to9 {o:Nat → Nat} (h:To7 x o) (k:allB (x.ck8 o) x.g = true) {u:Nat → List Nat} (hd:x.dirs = some u):To9 x o u:=⟨by rw [h.e];unfold ex7;rw [if_neg (by rw [k];decide),hd]⟩
theorem To9.no10 {o:Nat → Nat} {u:Nat → List Nat} (h:To9 x o u) (k:allB (fun t => x.ck10 u (t + 1)) x.ni = false):x.exam = (10,fun _ => 0):=by rw [h.e];unfold ex9;rw [if_pos k]
theorem To9.no11 {o:Nat → Nat} {u:Nat → List Nat} (h:To9 x o u) (k:allB (fun t => x.ck10 u (t + 1)) x.ni = true) (k2:allB (x.ck11 (x.reach u)) (x.ni + 1) = false):x.exam = (11,fun _ => 0):=by
 rw [h.e];unfold ex9;rw [if_neg (by rw [k];decide),if_pos k2]
theorem To9.no12 {o:Nat → Nat} {u:Nat → List Nat} (h:To9 x o u) (k:allB (fun t => x.ck10 u (t + 1)) x.ni = true) (k2:allB (x.ck11 (x.reach u)) (x.ni + 1) = true) (k3:allB x.ck12 x.g = false):x.exam = (12,fun _ => 0):=by
 rw [h.e];unfold ex9;rw [if_neg (by rw [k];decide),if_neg (by rw [k2];decide),if_pos k3]
theorem To9.yes {o:Nat → Nat} {u:Nat → List Nat} (h:To9 x o u) (k:allB (fun t => x.ck10 u (t + 1)) x.ni = true) (k2:allB (x.ck11 (x.reach u)) (x.ni + 1) = true) (k3:allB x.ck12 x.g = true):x.exam = (0,o):=by
 rw [h.e];unfold ex9;rw [if_neg (by rw [k];decide),if_neg (by rw [k2];decide),if_neg (by rw [k3];decide)]
end Im
structure ExM (w:World) (W:World):Prop where
 r:At W w.heap.size 3 #[.int .i64 0]
 bel:Below w.heap.size w W
theorem ExM.grown {w W W':World} (h:ExM w W) (hg:W.grownBy W' (some (w.heap.size + 1))):ExM w W' :=
 ⟨h.r.grownQ hg (by omega),h.bel.trans (grown_below_ge hg h.bel.size (fun k e => by injection e with e;omega))⟩
theorem ExM.below {w W W':World} (h:ExM w W) (hb:Below W.heap.size W W'):ExM w W':=⟨h.r.below hb h.r.lt,h.bel.trans (hb.mono h.bel.size)⟩
def ImV (W:World) (v:Value) (n:Nat) (L:Nat → Nat → Int):Prop :=
 ∃ a cap,v = .slice a n cap ∧ (0 < n → ∃ b off,a = some ⟨b,off,none⟩ ∧ b < W.heap.size ∧ RSeg W b off 256 n (bkF L))
theorem ImV.below {W W':World} {v:Value} {n:Nat} {L:Nat → Nat → Int} (h:ImV W v n L) (hb:Below W.heap.size W W'):ImV W' v n L:=by
 obtain ⟨a,cap,rfl,h⟩:=h
 exact ⟨a,cap,rfl,fun hn => by obtain ⟨b,off,e,hl,hs⟩:=h hn;exact ⟨b,off,e,Nat.lt_of_lt_of_le hl hb.size,RSeg.below hs hb hl⟩⟩
def ExPost (w:World) (v:Value) (n:Nat) (L:Nat → Nat → Int) (e:Ending) (w':World):Prop :=
 ∃ p,e = .returned (.tuple #[.pointer (some ⟨p,0,none⟩),.int .i64 (((Im.of L n).exam.1:Nat):Int)]) ∧ Below w.heap.size w w' ∧
  ((Im.of L n).exam.1 = 0 → (Im.of L n).Ok ∧ ∃ ds ino orp sl un g,At w' p 105 (xcells v (Im.of L n).g (Im.of L n).s (Im.of L n).i (Im.of L n).j (Im.of L n).o ds ino orp (.slice (some ⟨g,0,none⟩) n n) sl un) ∧ RArr w' g 3 1 n (ownF (Im.of L n).exam.2) ∧ w.heap.size ≤ g ∧ p ≠ g)
theorem ExPost.no {w W:World} {v:Value} {n p k:Nat} {K:Int} {L:Nat → Nat → Int} (hK:K = (k:Int)) (hk:k ≠ 0) (h:(Im.of L n).exam = (k,fun _ => 0)) (hM:ExM w W) :
  ExPost w v n L (.returned (.tuple #[.pointer (some ⟨p,0,none⟩),.int .i64 K])) (W.setCell ⟨w.heap.size,0,none⟩ (.int .i64 K)) :=
 ⟨p,by rw [h,hK],hM.bel.trans ((Only.setCell W ⟨w.heap.size,0,none⟩ _).below (Nat.le_refl _)),fun e => by rw [h] at e;exact absurd e hk⟩
theorem UnR.grown {w W:World} {base ug n p:Nat} {u:Nat → List Nat} {cs:Array Value} (h:UnR w base ug n u) (hA:At w p 105 cs) (hup:ug ≠ p) (hg:w.grownBy W (some p)):UnR W base ug n u:=by
 obtain ⟨a,c,h1,h2⟩:=h
 refine ⟨a,c,h1.grown hg (fun e => by injection e with e;exact hup e),fun t ht => World.ownsRow.kept (h2 t ht) hg ?_⟩
 cases h3:(Value.slice (a t) (u t).length (c t)).ownBlock with
 | none => exact .inl rfl
 | some r => exact .inr (fun e => at_own_neS hA (h2 t ht) (by decide) (by rw [h3];exact e))
structure ExS (w:World) (b off cap:Nat) (x:Im) (ds ino orp own sl un:Value) (db:Nat) (W:World):Prop where
 m:ExM w W
 a:At W (w.heap.size + 1) 105 (XC b off cap x ds ino orp own sl un)
 i:RSeg W b off 256 x.n (bkF x.L)
 d:RSeg W db 0 3 x.g (df (rB (x.L 1)) (rI (x.L 1)) (rD (x.L 1)))
 dl:w.heap.size + 2 ≤ db ∧ db < W.heap.size
 bl:b < w.heap.size
section
variable {w:World} {b off cap:Nat} {x:Im} {ds ino orp own sl un:Value} {db:Nat} {W W':World}
theorem ExS.lt (h:ExS w b off cap x ds ino orp own sl un db W):w.heap.size + 1 < W.heap.size ∧ b < W.heap.size ∧ b ≠ w.heap.size + 1:=by
 have h1:=h.a.lt
 have h2:=h.bl
 exact ⟨h1,by omega,by omega⟩
theorem ExS.below (h:ExS w b off cap x ds ino orp own sl un db W) (hb:Below W.heap.size W W'):ExS w b off cap x ds ino orp own sl un db W' :=
 ⟨h.m.below hb,h.a.below hb h.a.lt,RSeg.below h.i hb h.lt.2.1,RSeg.below h.d hb h.dl.2,⟨h.dl.1,Nat.lt_of_lt_of_le h.dl.2 hb.size⟩,h.bl⟩
theorem ExS.grown (h:ExS w b off cap x ds ino orp own sl un db W) (hg:W.grownBy W' (some (w.heap.size + 1))) {ino' orp' own' sl' un':Value} (ha:At W' (w.heap.size + 1) 105 (XC b off cap x ds ino' orp' own' sl' un')):ExS w b off cap x ds ino' orp' own' sl' un' db W' :=
 ⟨h.m.grown hg,ha,RSeg.grownQ h.i hg h.lt.2.1 (fun e => by injection e with e;exact h.lt.2.2 e),RSeg.grownQ h.d hg h.dl.2 (fun e => by injection e with e;have:=h.dl.1;omega),⟨h.dl.1,Nat.lt_of_lt_of_le h.dl.2 hg.size⟩,h.bl⟩
theorem ExS.ckX (h:ExS w b off cap x ds ino orp own sl un db W) {q:Nat} (hr:RArr W q 63 16 (x.ni + 1) (inoF x)):CkX W (w.heap.size + 1) b off x (XC b off cap x ds ino orp own sl un) q W :=
 ⟨h.a,h.i,hr,h.lt.2.1,grown_below (Below.refl _ _)⟩
end
set_option maxRecDepth 100000 in
set_option maxHeartbeats 16000000 in
theorem ckExamine_any (b off n cap:Nat) (L:Nat → Nat → Int) (hL:∀ i,Byt (L i)) (hn:0 < n) (hn9:n ≤ 4294967296) (w:World) (hT:Tab w) (hbw:b < w.heap.size) (hi:RSeg w b off 256 n (bkF L)) :
  Calls Tryz.prog 37 #[.slice (some ⟨b,off,none⟩) n cap] w fun e w' => ExPost w (.slice (some ⟨b,off,none⟩) n cap) n L e w':=by
 have hmf:∀ (fn:Fn) (first cap:Array Value) (w:World),(Instr.makeFunc fn first cap).run Tryz.prog w = .ok (.func fn first cap) w:=fun _ _ _ _ => rfl
 have hz:=zero_exam
 have hA0:=At.new (w.alloc (.cells #[.int .i64 0] 3)) 105 (X0 (.slice (some ⟨b,off,none⟩) n cap))
 have hG0:=(At.new w 3 #[.int .i64 0]).alloc (.cells (X0 (.slice (some ⟨b,off,none⟩) n cap)) 105)
 have hb0:Below w.heap.size w ((w.alloc (.cells #[.int .i64 0] 3)).alloc (.cells (X0 (.slice (some ⟨b,off,none⟩) n cap)) 105)):=((Below.refl _ _).alloc (Nat.le_refl _) _).alloc (by simp) _
 rw [World.size_alloc] at hA0
 have hi0:=RSeg.below hi hb0 hbw
 have hT0:=hT.below hb0 (Nat.le_refl _)
 have H0:=Lib.hid (And.intro hA0 (And.intro (ExM.mk hG0 hb0) (And.intro hi0 hT0)))
 clear hA0 hG0 hb0 hi0 hT0 hi hT
 go_enter_defers Tryz.func37,Tryz.ntmps37
 go_wp2_with fail
 refine (ckHead_any (w.heap.size + 1) b off n cap L hL hn hn9 _ H0.out.2.2.2 (by rw [World.size_alloc,World.size_alloc];omega) (by omega) H0.out.1 H0.out.2.2.1).mono ?_
 rintro e w1 ⟨hg1,hp⟩
 have M1:=Lib.hid (H0.out.2.1.grown hg1)
 have hi1:=RSeg.grownQ H0.out.2.2.1 hg1 (by rw [World.size_alloc,World.size_alloc];omega) (fun e => by injection e with e;omega)
 have hsz:w.heap.size + 2 ≤ (((w.alloc (.cells #[.int .i64 0] 3)).alloc (.cells (X0 (.slice (some ⟨b,off,none⟩) n cap)) 105)):World).heap.size:=by simp
 clear H0
 rcases hp with ⟨h1,rfl⟩ | ⟨h1,h2,rfl⟩ | ⟨h1,h2,rfl,db,dc,hdb,hdl,hA1,hD1⟩
 ·exact ex_thrown rfl rfl M1.out.r (ExPost.no rfl (by decide) (Im.exam_1 h1) M1.out)
 ·exact ex_thrown rfl rfl M1.out.r (ExPost.no rfl (by decide) (Im.exam_2 h1 h2) M1.out)
 have hx:=Im.of_ok hL h1
 have HX:=Lib.hid hx
 have HH:=Lib.hid (And.intro h1 h2)
 have S1:Hid (ExS w b off cap (Im.of L n) (.slice (some ⟨db,0,none⟩) (Im.of L n).g dc) (.slice none 0 0) (.slice none 0 0) (.slice none 0 0) (.slice none 0 0) (.slice none 0 0) db w1):=⟨M1.out,hA1,hi1,hD1,⟨by omega,hdl⟩,hbw⟩
 clear M1 hg1 hi1 hsz h1 h2 hdb hdl hA1 hD1 hx hbw
 go_wp2_with fail
 refine (ckBitmaps_any (w.heap.size + 1) b off cap (Im.of L n) HX.out _ _ _ _ _ _ w1 S1.out.a S1.out.i).mono ?_
 rintro e w2 ⟨hS,hb2⟩
 have S2:=Lib.hid (S1.out.below hb2)
 clear S1 hb2
 rcases hS with ⟨h3,rfl⟩ | ⟨h3,rfl⟩
 rotate_left
 ·exact ex_thrown rfl rfl S2.out.m.r (ExPost.no rfl (by decide) (Im.exam_3 HH.out.1 HH.out.2 h3) S2.out.m)
 have H3:=Lib.hid h3
 clear h3
 go_wp2_with fail
 refine (ckInodes_any (w.heap.size + 1) b off cap (Im.of L n) HX.out _ _ _ _ _ w2 S2.out.a S2.out.i S2.out.lt.2.2).mono ?_
 rintro e w3 ⟨hS,hg3,hq⟩
 rcases hS with ⟨h4,rfl⟩ | ⟨h4,rfl⟩
 rotate_left
 ·exact ex_thrown rfl rfl (S2.out.m.grown hg3).r (ExPost.no rfl (by decide) (Im.exam_4 HH.out.1 HH.out.2 H3.out h4) (S2.out.m.grown hg3))
 obtain ⟨q,hqw,hA3,hR3⟩:=hq h4
 have S3:=Lib.hid (S2.out.grown hg3 hA3)
 have R3:=Lib.hid hR3
 have HQ:Hid (q ≠ w.heap.size + 1 ∧ b ≠ q):=⟨by have:=S2.out.lt;omega,by have:=S2.out.lt;omega⟩
 have H4:=Lib.hid h4
 have hni:1 ≤ (Im.of L n).ni:=Nat.mul_pos (by have:=(mayN HX.out.may).1;omega) (by have:=mayN HX.out.may;omega)
 have HNI:=Lib.hid hni
 clear S2 hg3 hqw hA3 hR3 h4 hq hni
 go_wp2_with fail
 refine (ckRoot_any (w.heap.size + 1) b off cap (Im.of L n) _ _ _ _ _ q w3 HNI.out (S3.out.ckX R3.out)).mono ?_
 rintro e w4 ⟨hS,rfl⟩
 rcases hS with ⟨h5,rfl⟩ | ⟨h5,rfl⟩
 rotate_left
 ·exact ex_thrown rfl rfl S3.out.m.r (ExPost.no rfl (by decide) (Im.exam_5 HH.out.1 HH.out.2 H3.out H4.out h5) S3.out.m)
 have T5:Hid (Im.To5 (Im.of L n)):=⟨HH.out.1,HH.out.2,H3.out,H4.out,h5⟩
 have HM:=Lib.hid (Im.all_may H4.out)
 clear HH H3 H4 h5
 go_wp2_with fail
 refine (ckOrphans_any (w.heap.size + 1) b off cap (Im.of L n) HX.out _ _ _ _ q w3 S3.out.lt.2.2 HQ.out.1 (S3.out.ckX R3.out)).mono ?_
 rintro e w5 ⟨hS,hg5,hq⟩
 rcases hS with ⟨h6,rfl⟩ | ⟨h6,rfl⟩
 rotate_left
 ·exact ex_thrown rfl rfl (S3.out.m.grown hg5).r (ExPost.no rfl (by decide) (T5.out.no6 h6) (S3.out.m.grown hg5))
 obtain ⟨m,og,hm,hog,hA5,hO5⟩:=hq h6
 have S5:=Lib.hid (S3.out.grown hg5 hA5)
 have R5:=Lib.hid (R3.out.grown hg5 (fun e => by injection e with e;exact HQ.out.1 e))
 have O5:=Lib.hid hO5
 have HO:Hid (og ≠ w.heap.size + 1 ∧ og ≠ b ∧ og ≠ q):=⟨by have:=S3.out.lt;omega,by have:=S3.out.lt;omega,by have:=R3.out.lt;omega⟩
 have H6:=Lib.hid (And.intro h6 hm)
 clear S3 R3 hg5 hog hA5 hO5 h6 hm hq
 go_wp2_with fail
 refine (ckTrees_any (w.heap.size + 1) b off cap (Im.of L n) HX.out HM.out _ _ _ q og m w5 S5.out.lt.2.2 HQ.out.1 HO.out.1 HO.out.2.1 HO.out.2.2 (S5.out.ckX R5.out) O5.out).mono ?_
 rintro e w6 ⟨hg6,hp⟩
 rcases hp with ⟨h7,rfl⟩ | ⟨o,g,h7,rfl,hgl,hA6,hW6⟩
 ·exact ex_thrown rfl rfl (S5.out.m.grown hg6).r (ExPost.no rfl (by decide) (T5.out.no7 H6.out.1 H6.out.2 h7) (S5.out.m.grown hg6))
 have S6:=Lib.hid (S5.out.grown hg6 hA6)
 have R6:=Lib.hid (R5.out.grown hg6 (fun e => by injection e with e;exact HQ.out.1 e))
 have W6:=Lib.hid hW6
 have HG:Hid (g ≠ w.heap.size + 1 ∧ w.heap.size + 2 ≤ g):=⟨by have:=S5.out.lt;omega,by have:=S5.out.lt;omega⟩
 have T7:=Lib.hid (T5.out.to7 H6.out.1 H6.out.2 h7)
 have HT:Hid (∀ t,1 ≤ t → t ≤ (Im.of L n).ni → ((Im.of L n).ino t).kind ≠ 0 → (Im.of L n).Tree t):=fun t h1 h2 hk => Im.trees_ok h7 h1 h2 hk
 clear S5 R5 O5 hg6 hgl hA6 hW6 h7 H6 HO T5
 go_wp2_with fail
 refine (ckBlocks_any (w.heap.size + 1) b off cap (Im.of L n) HX.out _ _ _ _ _ q g o w6 ⟨S6.out.ckX R6.out,W6.out⟩).mono ?_
 rintro e w7 ⟨hS,hb7⟩
 have S7:=Lib.hid (S6.out.below hb7)
 have R7:=Lib.hid (R6.out.below hb7)
 have W7:=Lib.hid (W6.out.below hb7)
 clear S6 R6 W6 hb7
 rcases hS with ⟨h8,rfl⟩ | ⟨h8,rfl⟩
 rotate_left
 ·exact ex_thrown rfl rfl S7.out.m.r (ExPost.no rfl (by decide) (T7.out.no8 h8) S7.out.m)
 have H8:=Lib.hid h8
 clear h8
 go_wp2_with fail
 refine (ckDirs_any (w.heap.size + 1) b off cap (Im.of L n) HX.out HM.out HT.out _ _ _ _ q w7 S7.out.lt.2.2 HQ.out.1 (S7.out.ckX R7.out)).mono ?_
 rintro e w8 ⟨hg8,hp⟩
 rcases hp with ⟨h9,rfl⟩ | ⟨u,ug,h9,rfl,hul,hA8,hU8⟩
 ·exact ex_thrown rfl rfl (S7.out.m.grown hg8).r (ExPost.no rfl (by decide) (T7.out.no9 H8.out h9) (S7.out.m.grown hg8))
 have S8:=Lib.hid (S7.out.grown hg8 hA8)
 have R8:=Lib.hid (R7.out.grown hg8 (fun e => by injection e with e;exact HQ.out.1 e))
 have W8:=Lib.hid (W7.out.grown hg8 (fun e => by injection e with e;exact HG.out.1 e))
 have U8:=Lib.hid hU8
 have HU:Hid (ug ≠ w.heap.size + 1):=by show _ ≠ _;have:=S7.out.lt;omega
 have T9:=Lib.hid (T7.out.to9 H8.out h9)
 have HB:=Lib.hid (Im.dirs_bd HM.out h9)
 clear S7 R7 W7 hg8 hul hA8 hU8 h9 T7 H8 HT
 go_wp2_with fail
 refine (ckLinks_any (w.heap.size + 1) b off cap (Im.of L n) HX.out _ _ _ q ug _ u HB.out w8 S8.out.lt.2.2 HQ.out.1 HU.out (S8.out.ckX R8.out) U8.out).mono ?_
 rintro e w9 ⟨hg9,hS,hq⟩
 rcases hS with ⟨h10,rfl⟩ | ⟨h10,rfl⟩
 rotate_left
 ·exact ex_thrown rfl rfl (S8.out.m.grown hg9).r (ExPost.no rfl (by decide) (T9.out.no10 h10) (S8.out.m.grown hg9))
 obtain ⟨sl,hA9⟩:=hq h10
 have S9:=Lib.hid (S8.out.grown hg9 hA9)
 have R9:=Lib.hid (R8.out.grown hg9 (fun e => by injection e with e;exact HQ.out.1 e))
 have W9:=Lib.hid (W8.out.grown hg9 (fun e => by injection e with e;exact HG.out.1 e))
 have U9:=Lib.hid (U8.out.grown S8.out.a HU.out hg9)
 have H10:=Lib.hid h10
 clear S8 R8 W8 U8 hg9 hA9 h10 hq
 go_wp2_with fail
 refine (ckReached_any (w.heap.size + 1) b off cap (Im.of L n) HX.out _ _ _ _ q ug _ u HB.out w9 S9.out.a.lt S9.out.lt.2.1 R9.out.lt HU.out (S9.out.ckX R9.out) U9.out).mono ?_
 rintro e w10 ⟨hb10,hS⟩
 have S10:=Lib.hid (S9.out.below hb10)
 have R10:=Lib.hid (R9.out.below hb10)
 have W10:=Lib.hid (W9.out.below hb10)
 clear S9 R9 W9 U9 hb10
 rcases hS with ⟨h11,rfl⟩ | ⟨h11,rfl⟩
 rotate_left
 ·exact ex_thrown rfl rfl S10.out.m.r (ExPost.no rfl (by decide) (T9.out.no11 H10.out h11) S10.out.m)
 have H11:=Lib.hid h11
 clear h11
 go_wp2_with fail
 refine (ckCounts_any (w.heap.size + 1) b off cap dc (Im.of L n) HX.out _ _ _ _ q db 0 w10 S10.out.a.lt S10.out.lt.2.1 R10.out.lt S10.out.dl.2 (S10.out.ckX R10.out) S10.out.d).mono ?_
 rintro e w11 ⟨hS,hb11⟩
 have S11:=Lib.hid (S10.out.below hb11)
 have W11:=Lib.hid (W10.out.below hb11)
 clear S10 R10 W10 hb11
 rcases hS with ⟨h12,rfl⟩ | ⟨h12,rfl⟩
 rotate_left
 ·exact ex_thrown rfl rfl S11.out.m.r (ExPost.no rfl (by decide) (T9.out.no12 H10.out H11.out h12) S11.out.m)
 have HE:Hid ((Im.of L n).exam = (0,o)):=T9.out.yes H10.out H11.out h12
 have hc:=S11.out.m.r.cell (i:=0) (v:=.int .i64 0) rfl
 have hz':=soft_of_heap S11.out.m.r 0
 have ho:=Only.setCell w11 ⟨w.heap.size,0,none⟩ (.int .i64 0)
 have HP:Hid (ExPost w (.slice (some ⟨b,off,none⟩) n cap) n L (.returned (.tuple #[.pointer (some ⟨w.heap.size + 1,0,none⟩),.int .i64 0])) (w11.setCell ⟨w.heap.size,0,none⟩ (.int .i64 0))):=by
  refine ⟨w.heap.size + 1,by rw [HE.out];rfl,S11.out.m.bel.trans (ho.below (Nat.le_refl _)),fun _ => ⟨HX.out,_,_,_,_,_,g,S11.out.a.only ho (by show w.heap.size + 1 ≠ w.heap.size;omega),?_,by have:=HG.out.2;omega,Ne.symm HG.out.1⟩⟩
  rw [HE.out]
  exact W11.out.only ho (by show g ≠ w.heap.size;have:=HG.out.2;omega)
 have hR:=(S11.out.m.r.setCell 0 (.int .i64 0)).cell (i:=0) (v:=.int .i64 0) rfl
 clear S11 W11 h12 H10 H11 T9 HB HU HG HQ HX HM HNI ho
 go_wp2_with fail
 exact ex_back rfl rfl hR HP.out
theorem ckExamine_all (v:Value) (n:Nat) (L:Nat → Nat → Int) (hL:∀ i,Byt (L i)) (hn9:n ≤ 4294967296) (w:World) (hT:Tab w) (hv:ImV w v n L) :
  Calls Tryz.prog 37 #[v] w fun e w' => ExPost w v n L e w':=by
 obtain ⟨a,cap,rfl,h⟩:=hv
 by_cases hn:0 < n
 ·obtain ⟨b,off,rfl,hb,hs⟩:=h hn
  exact ckExamine_any b off n cap L hL hn hn9 w hT hb hs
 ·obtain rfl:n = 0:=by omega
  refine (ckExamine_none a cap L w).mono ?_
  rintro e w' ⟨⟨p,rfl⟩,hb⟩
  have h1:(Im.of L 0).exam = (1,fun _ => 0):=Im.exam_1 (by unfold Im.ck1;rfl)
  exact ⟨p,by rw [h1];rfl,hb,fun e => by rw [h1] at e;cases e⟩
end Go.Proofs.YtphamecphmbipaaGreatDoor
