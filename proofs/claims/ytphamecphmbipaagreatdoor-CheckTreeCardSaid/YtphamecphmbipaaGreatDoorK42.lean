/- Texts of this claim, merged. -/
import Derived.Test.YtphamecphmbipaaGreatDoorK41
import Derived.Test.YtphamecphmbipaaGreatDoorK24
import Derived.Test.YtphamecphmbipaaGreatDoorK37
import Derived.Defers
import Derived.Recover
set_option maxRecDepth 100000
set_option maxHeartbeats 16000000

namespace Go.Proofs.YtphamecphmbipaaGreatDoor
open Go.RowKit
set_option linter.unusedVariables false
namespace Im
theorem ck4_may {x:Im} {t:Nat} (h:x.ck4 t = true) (h1:1 ≤ t) (h2:t ≤ x.ni):(x.ino t).May:=by
 unfold ck4 at h
 rw [Bool.and_eq_true,beq_iff_eq] at h
 have h0:=h.1
 unfold getErr at h0
 unfold ino
 rw [if_pos ⟨h1,h2⟩]
 unfold getIno
 split at h0
 ·rename_i hp
  split at h0
  ·rename_i hg
   rw [if_pos hp,if_pos hg]
   unfold getOkB at hg
   simp only [Bool.and_eq_true,decide_eq_true_eq] at hg
   exact hg.2.2
  ·cases h0
 ·cases h0
theorem all_may {x:Im} (h:allB (fun t => x.ck4 (t + 1)) x.ni = true) (t:Nat) (h1:1 ≤ t) (h2:t ≤ x.ni):(x.ino t).May:=by
 have:=(allB_iff _ _).1 h (t - 1) (by omega)
 rw [show t - 1 + 1 = t by omega] at this
 exact ck4_may this h1 h2
end Im
theorem ckCatch_any (g:Nat) (x k:Int) (w:World) (hc:w.cell? ⟨g,0,none⟩ = some (.int .i64 x)) (hz:w.frozen? ⟨g,0,none⟩ = false) :
  CallsD Tryz.prog 75 #[.pointer (some ⟨g,0,none⟩)] (.panicking (brk k)) w fun e u' w' =>
   e = .returned (.tuple #[]) ∧ u' = .panicking [{ v:=.iface 158 (.int .i64 k),recovered:=true }] ∧ w' = w.setCell ⟨g,0,none⟩ (.int .i64 k):=by
 refine callsD_of_wpS Tryz.func75 rfl fun c₀ cs hu => ?_
 apply wpS_seq
 apply wpS_region
 simp [wpOpsS,go_sem,recoverD,hu,brk,Tryz.ntmps75,Exit.thenS]
 apply wpS_seq
 apply wpS_region
 simp [wpOpsS,go_sem,Exit.thenS]
 refine wpS_cond (t:=true) (by simp [Act.eval,Array.replicate]) ?_
 simp only [if_true]
 refine wpS_of_wp ?_
 simp only [Array.replicate,List.replicate,List.setIfInBounds_toArray,List.append_toArray,List.set_cons_succ,List.set_cons_zero,List.cons_append,List.nil_append]
 have hta:∀ W,(Instr.typeAssert (.iface 158 (.int .i64 k)) 20 158 true).run Tryz.prog W = .ok (.tuple #[.int .i64 k,.bool true]) W:=fun W => by kernel_rfl
 go_wp2_with fail
 simp [bodyPostS,results,Tryz.results75]
theorem ckCatch_idle (g:Nat) (w:World) :
  CallsD Tryz.prog 75 #[.pointer (some ⟨g,0,none⟩)] .returning w fun e u' w' => e = .returned (.tuple #[]) ∧ u' = .returning ∧ w' = w:=by
 refine callsD_of_wpS Tryz.func75 rfl fun c₀ cs hu => ?_
 apply wpS_seq
 apply wpS_region
 simp [wpOpsS,go_sem,recoverD,hu,Tryz.ntmps75,Exit.thenS]
 apply wpS_seq
 apply wpS_region
 simp [wpOpsS,go_sem,Exit.thenS]
 refine wpS_cond (t:=false) (by simp [Act.eval,Array.replicate]) ?_
 simp only [Bool.false_eq_true,if_false]
 refine wpS_of_wp (wp_skip ?_)
 cases c₀
 simp_all [bodyPostS,results,Tryz.results75]
theorem zero_exam (W:World):(zeroValue 105).run Tryz.prog W = .ok (.agg (X0 (.slice none 0 0))) W:=by kernel_rfl
theorem ex_results {tmps:Array Value} {p R:Nat} {W:World} {k:Int} (h2:tmps[2]?.getD undef = .pointer (some ⟨p,0,none⟩)) (h3:tmps[3]?.getD undef = .pointer (some ⟨R,0,none⟩)) (hR:W.cell? ⟨R,0,none⟩ = some (.int .i64 k)) :
  (results Tryz.f37 tmps).run Tryz.prog W = .ok (.tuple #[.pointer (some ⟨p,0,none⟩),.int .i64 k]) W:=by
 simp [results,Tryz.results37,go_sem,h2,h3,hR]
theorem ex_thrown {tmps:Array Value} {p R:Nat} {W:World} {k:Int} {Q:Ending → World → Prop} (h2:tmps[2]?.getD undef = .pointer (some ⟨p,0,none⟩)) (h3:tmps[3]?.getD undef = .pointer (some ⟨R,0,none⟩)) (hR:At W R 3 #[.int .i64 0])
  (hQ:Q (.returned (.tuple #[.pointer (some ⟨p,0,none⟩),.int .i64 k])) (W.setCell ⟨R,0,none⟩ (.int .i64 k))) :
  Leaves Tryz.prog Tryz.f37 tmps Q [{ target:=.fn (.func 75) #[.pointer (some ⟨R,0,none⟩)],args:=#[] }] (.panicking (brk k)) W:=by
 refine leaves_cons (f:=75) (args:=#[.pointer (some ⟨R,0,none⟩)]) (by simp) (by simp [go_sem]) ?_
 refine (ckCatch_any R 0 k W (hR.cell (i:=0) rfl) (soft_of_heap hR 0)).mono ?_
 rintro e u' w'' ⟨rfl,rfl,rfl⟩
 exact ⟨_,ex_results h2 h3 ((hR.setCell 0 (.int .i64 k)).cell (i:=0) rfl),hQ⟩
theorem ex_back {tmps:Array Value} {p R:Nat} {W:World} {k:Int} {Q:Ending → World → Prop} (h2:tmps[2]?.getD undef = .pointer (some ⟨p,0,none⟩)) (h3:tmps[3]?.getD undef = .pointer (some ⟨R,0,none⟩)) (hR:W.cell? ⟨R,0,none⟩ = some (.int .i64 k))
  (hQ:Q (.returned (.tuple #[.pointer (some ⟨p,0,none⟩),.int .i64 k])) W) :
  Leaves Tryz.prog Tryz.f37 tmps Q [{ target:=.fn (.func 75) #[.pointer (some ⟨R,0,none⟩)],args:=#[] }] .returning W:=by
 refine leaves_cons (f:=75) (args:=#[.pointer (some ⟨R,0,none⟩)]) (by simp) (by simp [go_sem]) ?_
 refine (ckCatch_idle R W).mono ?_
 rintro e u' w'' ⟨rfl,rfl,rfl⟩
 exact ⟨_,ex_results h2 h3 hR,hQ⟩
theorem ckExamine_none (a:Option Addr) (cap:Nat) (L:Nat → Nat → Int) (w:World):Calls Tryz.prog 37 #[.slice a 0 cap] w fun e w' => (∃ p,e = .returned (.tuple #[.pointer (some ⟨p,0,none⟩),.int .i64 1])) ∧ Below w.heap.size w w':=by
 have hmf:∀ (fn:Fn) (first cap:Array Value) (w:World),(Instr.makeFunc fn first cap).run Tryz.prog w = .ok (.func fn first cap) w:=fun _ _ _ _ => rfl
 have hz:=zero_exam
 have hA:=At.new (w.alloc (.cells #[.int .i64 0] 3)) 105 (X0 (.slice a 0 cap))
 have hG:=(At.new w 3 #[.int .i64 0]).alloc (.cells (X0 (.slice a 0 cap)) 105)
 rw [World.size_alloc] at hA
 go_enter_defers Tryz.func37,Tryz.ntmps37
 go_wp2_with fail
 refine (ckHead_none (w.heap.size + 1) cap a L _ hA).mono ?_
 rintro e w1 ⟨_,rfl,rfl⟩
 refine leaves_cons (f:=75) (args:=#[.pointer (some ⟨w.heap.size,0,none⟩)]) (by simp) (by simp [go_sem]) ?_
 refine (ckCatch_any w.heap.size 0 1 _ (hG.cell (i:=0) rfl) (soft_of_heap hG 0)).mono ?_
 rintro e u' w'' ⟨rfl,rfl,rfl⟩
 simp [Leaves,settle,results,Tryz.results37,go_sem]
 exact ((Below.refl _ _).alloc (Nat.le_refl _) _).alloc (by simp) _
namespace Im
variable {x:Im}
theorem exam_1 (h:x.ck1 = false):x.exam = (1,fun _ => 0):=by unfold exam;rw [if_pos h]
theorem exam_2 (h1:x.ck1 = true) (h:x.ck2 = false):x.exam = (2,fun _ => 0):=by unfold exam;rw [if_neg (by rw [h1];decide),if_pos h]
def ex9 (x:Im) (o:Nat → Nat) (u:Nat → List Nat):Nat × (Nat → Nat) :=
 if allB (fun t => x.ck10 u (t + 1)) x.ni = false then (10,fun _ => 0) else if allB (x.ck11 (x.reach u)) (x.ni + 1) = false then (11,fun _ => 0)
    else if allB x.ck12 x.g = false then (12,fun _ => 0) else (0,o)
def ex7 (x:Im) (o:Nat → Nat):Nat × (Nat → Nat):=if allB (x.ck8 o) x.g = false then (8,fun _ => 0) else match x.dirs with
   | none => (9,fun _ => 0)
   | some u => ex9 x o u
def ex6 (x:Im) (m:Nat → Bool):Nat × (Nat → Nat):=match x.trees m with
  | none => (7,fun _ => 0)
  | some o => ex7 x o
def ex5 (x:Im):Nat × (Nat → Nat):=match x.orph with
 | none => (6,fun _ => 0)
 | some m => if allB (fun t => x.ck6 m (t + 1)) x.ni = false then (6,fun _ => 0) else ex6 x m
theorem exam_12 (h1:x.ck1 = true) (h2:x.ck2 = true):x.exam = if allB x.ck3 x.g = false then (3,fun _ => 0)
 else if allB (fun t => x.ck4 (t + 1)) x.ni = false then (4,fun _ => 0) else if (x.ino 1).kind ≠ 2 then (5,fun _ => 0) else ex5 x:=by
 unfold exam;rw [if_neg (by rw [h1];decide),if_neg (by rw [h2];decide)];rfl
theorem exam_3 (h1:x.ck1 = true) (h2:x.ck2 = true) (h:allB x.ck3 x.g = false):x.exam = (3,fun _ => 0):=by rw [exam_12 h1 h2,if_pos h]
theorem exam_4 (h1:x.ck1 = true) (h2:x.ck2 = true) (h3:allB x.ck3 x.g = true) (h:allB (fun t => x.ck4 (t + 1)) x.ni = false):x.exam = (4,fun _ => 0):=by
 rw [exam_12 h1 h2,if_neg (by rw [h3];decide),if_pos h]
theorem exam_5 (h1:x.ck1 = true) (h2:x.ck2 = true) (h3:allB x.ck3 x.g = true) (h4:allB (fun t => x.ck4 (t + 1)) x.ni = true) (h:((x.ino 1).kind == 2) = false):x.exam = (5,fun _ => 0):=by
 rw [exam_12 h1 h2,if_neg (by rw [h3];decide),if_neg (by rw [h4];decide),if_pos (fun e => by rw [e] at h;cases h)]
structure To5 (x:Im):Prop where
 h1:x.ck1 = true
 h2:x.ck2 = true
 h3:allB x.ck3 x.g = true
 h4:allB (fun t => x.ck4 (t + 1)) x.ni = true
 h5:((x.ino 1).kind == 2) = true
theorem To5.exam (h:To5 x):x.exam = ex5 x:=by
 rw [exam_12 h.h1 h.h2,if_neg (by rw [h.h3];decide),if_neg (by rw [h.h4];decide),if_neg (fun e => e (by have:=h.h5;rwa [beq_iff_eq] at this))]
theorem To5.no6 (h:To5 x) (k:x.ok6 = false):x.exam = (6,fun _ => 0):=by
 rw [h.exam]
 unfold ok6 at k
 unfold ex5
 cases ho:x.orph with
 | none => rfl
 | some m => rw [ho] at k;exact if_pos k
theorem To5.to6 (h:To5 x) (k:x.ok6 = true) {m:Nat → Bool} (hm:x.orph = some m):x.exam = ex6 x m:=by
 rw [h.exam]
 unfold ex5
 rw [hm]
 unfold ok6 at k
 rw [hm] at k
 replace k:allB (fun t => x.ck6 m (t + 1)) x.ni = true:=k
 show (if allB (fun t => x.ck6 m (t + 1)) x.ni = false then _ else _) = _
 rw [if_neg (by rw [k];decide)]
structure To7 (x:Im) (o:Nat → Nat):Prop where
 e:x.exam = ex7 x o
theorem To5.no7 (h:To5 x) (k:x.ok6 = true) {m:Nat → Bool} (hm:x.orph = some m) (ht:x.trees m = none):x.exam = (7,fun _ => 0):=by rw [h.to6 k hm];unfold ex6;rw [ht]
theorem To5.to7 (h:To5 x) (k:x.ok6 = true) {m:Nat → Bool} (hm:x.orph = some m) {o:Nat → Nat} (ht:x.trees m = some o):To7 x o:=⟨by rw [h.to6 k hm];unfold ex6;rw [ht]⟩
theorem To7.no8 {o:Nat → Nat} (h:To7 x o) (k:allB (x.ck8 o) x.g = false):x.exam = (8,fun _ => 0):=by rw [h.e];unfold ex7;rw [if_pos k]
theorem To7.no9 {o:Nat → Nat} (h:To7 x o) (k:allB (x.ck8 o) x.g = true) (hd:x.dirs = none):x.exam = (9,fun _ => 0):=by rw [h.e];unfold ex7;rw [if_neg (by rw [k];decide),hd]
structure To9 (x:Im) (o:Nat → Nat) (u:Nat → List Nat):Prop where
 e:x.exam = ex9 x o u
theorem To7.to9 {o:Nat → Nat} (h:To7 x o) (k:allB (x.ck8 o) x.g = true) {u:Nat → List Nat} (hd:x.dirs = some u):To9 x o u:=⟨by rw [h.e];unfold ex7;rw [if_neg (by rw [k];decide),hd]⟩
theorem To9.no10 {o:Nat → Nat} {u:Nat → List Nat} (h:To9 x o u) (k:allB (fun t => x.ck10 u (t + 1)) x.ni = false):x.exam = (10,fun _ => 0):=by rw [h.e];unfold ex9;rw [if_pos k]
theorem To9.no11 {o:Nat → Nat} {u:Nat → List Nat} (h:To9 x o u) (k:allB (fun t => x.ck10 u (t + 1)) x.ni = true) (k2:allB (x.ck11 (x.reach u)) (x.ni + 1) = false):x.exam = (11,fun _ => 0):=by
 rw [h.e];unfold ex9;rw [if_neg (by rw [k];decide),if_pos k2]
theorem To9.no12 {o:Nat → Nat} {u:Nat → List Nat} (h:To9 x o u) (k:allB (fun t => x.ck10 u (t + 1)) x.ni = true) (k2:allB (x.ck11 (x.reach u)) (x.ni + 1) = true) (k3:allB x.ck12 x.g = false):x.exam = (12,fun _ => 0):=by
 rw [h.e];unfold ex9;rw [if_neg (by rw [k];decide),if_neg (by rw [k2];decide),if_pos k3]
theorem To9.yes {o:Nat → Nat} {u:Nat → List Nat} (h:To9 x o u) (k:allB (fun t => x.ck10 u (t + 1)) x.ni = true) (k2:allB (x.ck11 (x.reach u)) (x.ni + 1) = true) (k3:allB x.ck12 x.g = true):x.exam = (0,o):=by
 rw [h.e];unfold ex9;rw [if_neg (by rw [k];decide),if_neg (by rw [k2];decide),if_neg (by rw [k3];decide)]
end Im
structure ExM (w:World) (W:World):Prop where
 r:At W w.heap.size 3 #[.int .i64 0]
 bel:Below w.heap.size w W
theorem ExM.grown {w W W':World} (h:ExM w W) (hg:W.grownBy W' (some (w.heap.size + 1))):ExM w W' :=
 ⟨h.r.grownQ hg (by omega),h.bel.trans (grown_below_ge hg h.bel.size (fun k e => by injection e with e;omega))⟩
theorem ExM.below {w W W':World} (h:ExM w W) (hb:Below W.heap.size W W'):ExM w W':=⟨h.r.below hb h.r.lt,h.bel.trans (hb.mono h.bel.size)⟩
def ImV (W:World) (v:Value) (n:Nat) (L:Nat → Nat → Int):Prop :=
 ∃ a cap,v = .slice a n cap ∧ (0 < n → ∃ b off,a = some ⟨b,off,none⟩ ∧ b < W.heap.size ∧ RSeg W b off 256 n (bkF L))
theorem ImV.below {W W':World} {v:Value} {n:Nat} {L:Nat → Nat → Int} (h:ImV W v n L) (hb:Below W.heap.size W W'):ImV W' v n L:=by
 obtain ⟨a,cap,rfl,h⟩:=h
 exact ⟨a,cap,rfl,fun hn => by obtain ⟨b,off,e,hl,hs⟩:=h hn;exact ⟨b,off,e,Nat.lt_of_lt_of_le hl hb.size,RSeg.below hs hb hl⟩⟩
def ExPost (w:World) (v:Value) (n:Nat) (L:Nat → Nat → Int) (e:Ending) (w':World):Prop :=
 ∃ p,e = .returned (.tuple #[.pointer (some ⟨p,0,none⟩),.int .i64 (((Im.of L n).exam.1:Nat):Int)]) ∧ Below w.heap.size w w' ∧
  ((Im.of L n).exam.1 = 0 → (Im.of L n).Ok ∧ ∃ ds ino orp sl un g,At w' p 105 (xcells v (Im.of L n).g (Im.of L n).s (Im.of L n).i (Im.of L n).j (Im.of L n).o ds ino orp (.slice (some ⟨g,0,none⟩) n n) sl un) ∧ RArr w' g 3 1 n (ownF (Im.of L n).exam.2) ∧ w.heap.size ≤ g ∧ p ≠ g)
theorem ExPost.no {w W:World} {v:Value} {n p k:Nat} {K:Int} {L:Nat → Nat → Int} (hK:K = (k:Int)) (hk:k ≠ 0) (h:(Im.of L n).exam = (k,fun _ => 0)) (hM:ExM w W) :
  ExPost w v n L (.returned (.tuple #[.pointer (some ⟨p,0,none⟩),.int .i64 K])) (W.setCell ⟨w.heap.size,0,none⟩ (.int .i64 K)) :=
 ⟨p,by rw [h,hK],hM.bel.trans ((Only.setCell W ⟨w.heap.size,0,none⟩ _).below (Nat.le_refl _)),fun e => by rw [h] at e;exact absurd e hk⟩
theorem UnR.grown {w W:World} {base ug n p:Nat} {u:Nat → List Nat} {cs:Array Value} (h:UnR w base ug n u) (hA:At w p 105 cs) (hup:ug ≠ p) (hg:w.grownBy W (some p)):UnR W base ug n u:=by
 obtain ⟨a,c,h1,h2⟩:=h
 refine ⟨a,c,h1.grown hg (fun e => by injection e with e;exact hup e),fun t ht => World.ownsRow.kept (h2 t ht) hg ?_⟩
 cases h3:(Value.slice (a t) (u t).length (c t)).ownBlock with
 | none => exact .inl rfl
 | some r => exact .inr (fun e => at_own_neS hA (h2 t ht) (by decide) (by rw [h3];exact e))
structure ExS (w:World) (b off cap:Nat) (x:Im) (ds ino orp own sl un:Value) (db:Nat) (W:World):Prop where
 m:ExM w W
 a:At W (w.heap.size + 1) 105 (XC b off cap x ds ino orp own sl un)
 i:RSeg W b off 256 x.n (bkF x.L)
 d:RSeg W db 0 3 x.g (df (rB (x.L 1)) (rI (x.L 1)) (rD (x.L 1)))
 dl:w.heap.size + 2 ≤ db ∧ db < W.heap.size
 bl:b < w.heap.size
section
variable {w:World} {b off cap:Nat} {x:Im} {ds ino orp own sl un:Value} {db:Nat} {W W':World}
theorem ExS.lt (h:ExS w b off cap x ds ino orp own sl un db W):w.heap.size + 1 < W.heap.size ∧ b < W.heap.size ∧ b ≠ w.heap.size + 1:=by
 have h1:=h.a.lt
 have h2:=h.bl
 exact ⟨h1,by omega,by omega⟩
theorem ExS.below (h:ExS w b off cap x ds ino orp own sl un db W) (hb:Below W.heap.size W W'):ExS w b off cap x ds ino orp own sl un db W' :=
 ⟨h.m.below hb,h.a.below hb h.a.lt,RSeg.below h.i hb h.lt.2.1,RSeg.below h.d hb h.dl.2,⟨h.dl.1,Nat.lt_of_lt_of_le h.dl.2 hb.size⟩,h.bl⟩
theorem ExS.grown (h:ExS w b off cap x ds ino orp own sl un db W) (hg:W.grownBy W' (some (w.heap.size + 1))) {ino' orp' own' sl' un':Value} (ha:At W' (w.heap.size + 1) 105 (XC b off cap x ds ino' orp' own' sl' un')):ExS w b off cap x ds ino' orp' own' sl' un' db W' :=
 ⟨h.m.grown hg,ha,RSeg.grownQ h.i hg h.lt.2.1 (fun e => by injection e with e;exact h.lt.2.2 e),RSeg.grownQ h.d hg h.dl.2 (fun e => by injection e with e;have:=h.dl.1;omega),⟨h.dl.1,Nat.lt_of_lt_of_le h.dl.2 hg.size⟩,h.bl⟩
theorem ExS.ckX (h:ExS w b off cap x ds ino orp own sl un db W) {q:Nat} (hr:RArr W q 63 16 (x.ni + 1) (inoF x)):CkX W (w.heap.size + 1) b off x (XC b off cap x ds ino orp own sl un) q W :=
 ⟨h.a,h.i,hr,h.lt.2.1,grown_below (Below.refl _ _)⟩
end
theorem ckExamine_any (b off n cap:Nat) (L:Nat → Nat → Int) (hL:∀ i,Byt (L i)) (hn:0 < n) (hn9:n ≤ 4294967296) (w:World) (hT:Tab w) (hbw:b < w.heap.size) (hi:RSeg w b off 256 n (bkF L)) :
  Calls Tryz.prog 37 #[.slice (some ⟨b,off,none⟩) n cap] w fun e w' => ExPost w (.slice (some ⟨b,off,none⟩) n cap) n L e w':=by
 have hmf:∀ (fn:Fn) (first cap:Array Value) (w:World),(Instr.makeFunc fn first cap).run Tryz.prog w = .ok (.func fn first cap) w:=fun _ _ _ _ => rfl
 have hz:=zero_exam
 have hA0:=At.new (w.alloc (.cells #[.int .i64 0] 3)) 105 (X0 (.slice (some ⟨b,off,none⟩) n cap))
 have hG0:=(At.new w 3 #[.int .i64 0]).alloc (.cells (X0 (.slice (some ⟨b,off,none⟩) n cap)) 105)
 have hb0:Below w.heap.size w ((w.alloc (.cells #[.int .i64 0] 3)).alloc (.cells (X0 (.slice (some ⟨b,off,none⟩) n cap)) 105)):=((Below.refl _ _).alloc (Nat.le_refl _) _).alloc (by simp) _
 rw [World.size_alloc] at hA0
 have hi0:=RSeg.below hi hb0 hbw
 have hT0:=hT.below hb0 (Nat.le_refl _)
 have H0:=Lib.hid (And.intro hA0 (And.intro (ExM.mk hG0 hb0) (And.intro hi0 hT0)))
 clear hA0 hG0 hb0 hi0 hT0 hi hT
 go_enter_defers Tryz.func37,Tryz.ntmps37
 go_wp2_with fail
 refine (ckHead_any (w.heap.size + 1) b off n cap L hL hn hn9 _ H0.out.2.2.2 (by rw [World.size_alloc,World.size_alloc];omega) (by omega) H0.out.1 H0.out.2.2.1).mono ?_
 rintro e w1 ⟨hg1,hp⟩
 have M1:=Lib.hid (H0.out.2.1.grown hg1)
 have hi1:=RSeg.grownQ H0.out.2.2.1 hg1 (by rw [World.size_alloc,World.size_alloc];omega) (fun e => by injection e with e;omega)
 have hsz:w.heap.size + 2 ≤ (((w.alloc (.cells #[.int .i64 0] 3)).alloc (.cells (X0 (.slice (some ⟨b,off,none⟩) n cap)) 105)):World).heap.size:=by simp
 clear H0
 rcases hp with ⟨h1,rfl⟩ | ⟨h1,h2,rfl⟩ | ⟨h1,h2,rfl,db,dc,hdb,hdl,hA1,hD1⟩
 ·exact ex_thrown rfl rfl M1.out.r (ExPost.no rfl (by decide) (Im.exam_1 h1) M1.out)
 ·exact ex_thrown rfl rfl M1.out.r (ExPost.no rfl (by decide) (Im.exam_2 h1 h2) M1.out)
 have hx:=Im.of_ok hL h1
 have HX:=Lib.hid hx
 have HH:=Lib.hid (And.intro h1 h2)
 have S1:Hid (ExS w b off cap (Im.of L n) (.slice (some ⟨db,0,none⟩) (Im.of L n).g dc) (.slice none 0 0) (.slice none 0 0) (.slice none 0 0) (.slice none 0 0) (.slice none 0 0) db w1):=⟨M1.out,hA1,hi1,hD1,⟨by omega,hdl⟩,hbw⟩
 clear M1 hg1 hi1 hsz h1 h2 hdb hdl hA1 hD1 hx hbw
 go_wp2_with fail
 refine (ckBitmaps_any (w.heap.size + 1) b off cap (Im.of L n) HX.out _ _ _ _ _ _ w1 S1.out.a S1.out.i).mono ?_
 rintro e w2 ⟨hS,hb2⟩
 have S2:=Lib.hid (S1.out.below hb2)
 clear S1 hb2
 rcases hS with ⟨h3,rfl⟩ | ⟨h3,rfl⟩
 rotate_left
 ·exact ex_thrown rfl rfl S2.out.m.r (ExPost.no rfl (by decide) (Im.exam_3 HH.out.1 HH.out.2 h3) S2.out.m)
 have H3:=Lib.hid h3
 clear h3
 go_wp2_with fail
 refine (ckInodes_any (w.heap.size + 1) b off cap (Im.of L n) HX.out _ _ _ _ _ w2 S2.out.a S2.out.i S2.out.lt.2.2).mono ?_
 rintro e w3 ⟨hS,hg3,hq⟩
 rcases hS with ⟨h4,rfl⟩ | ⟨h4,rfl⟩
 rotate_left
 ·exact ex_thrown rfl rfl (S2.out.m.grown hg3).r (ExPost.no rfl (by decide) (Im.exam_4 HH.out.1 HH.out.2 H3.out h4) (S2.out.m.grown hg3))
 obtain ⟨q,hqw,hA3,hR3⟩:=hq h4
 have S3:=Lib.hid (S2.out.grown hg3 hA3)
 have R3:=Lib.hid hR3
 have HQ:Hid (q ≠ w.heap.size + 1 ∧ b ≠ q):=⟨by have:=S2.out.lt;omega,by have:=S2.out.lt;omega⟩
 have H4:=Lib.hid h4
 have hni:1 ≤ (Im.of L n).ni:=Nat.mul_pos (by have:=(mayN HX.out.may).1;omega) (by have:=mayN HX.out.may;omega)
 have HNI:=Lib.hid hni
 clear S2 hg3 hqw hA3 hR3 h4 hq hni
 go_wp2_with fail
 refine (ckRoot_any (w.heap.size + 1) b off cap (Im.of L n) _ _ _ _ _ q w3 HNI.out (S3.out.ckX R3.out)).mono ?_
 rintro e w4 ⟨hS,rfl⟩
 rcases hS with ⟨h5,rfl⟩ | ⟨h5,rfl⟩
 rotate_left
 ·exact ex_thrown rfl rfl S3.out.m.r (ExPost.no rfl (by decide) (Im.exam_5 HH.out.1 HH.out.2 H3.out H4.out h5) S3.out.m)
 have T5:Hid (Im.To5 (Im.of L n)):=⟨HH.out.1,HH.out.2,H3.out,H4.out,h5⟩
 have HM:=Lib.hid (Im.all_may H4.out)
 clear HH H3 H4 h5
 go_wp2_with fail
 refine (ckOrphans_any (w.heap.size + 1) b off cap (Im.of L n) HX.out _ _ _ _ q w3 S3.out.lt.2.2 HQ.out.1 (S3.out.ckX R3.out)).mono ?_
 rintro e w5 ⟨hS,hg5,hq⟩
 rcases hS with ⟨h6,rfl⟩ | ⟨h6,rfl⟩
 rotate_left
 ·exact ex_thrown rfl rfl (S3.out.m.grown hg5).r (ExPost.no rfl (by decide) (T5.out.no6 h6) (S3.out.m.grown hg5))
 obtain ⟨m,og,hm,hog,hA5,hO5⟩:=hq h6
 have S5:=Lib.hid (S3.out.grown hg5 hA5)
 have R5:=Lib.hid (R3.out.grown hg5 (fun e => by injection e with e;exact HQ.out.1 e))
 have O5:=Lib.hid hO5
 have HO:Hid (og ≠ w.heap.size + 1 ∧ og ≠ b ∧ og ≠ q):=⟨by have:=S3.out.lt;omega,by have:=S3.out.lt;omega,by have:=R3.out.lt;omega⟩
 have H6:=Lib.hid (And.intro h6 hm)
 clear S3 R3 hg5 hog hA5 hO5 h6 hm hq
 go_wp2_with fail
 refine (ckTrees_any (w.heap.size + 1) b off cap (Im.of L n) HX.out HM.out _ _ _ q og m w5 S5.out.lt.2.2 HQ.out.1 HO.out.1 HO.out.2.1 HO.out.2.2 (S5.out.ckX R5.out) O5.out).mono ?_
 rintro e w6 ⟨hg6,hp⟩
 rcases hp with ⟨h7,rfl⟩ | ⟨o,g,h7,rfl,hgl,hA6,hW6⟩
 ·exact ex_thrown rfl rfl (S5.out.m.grown hg6).r (ExPost.no rfl (by decide) (T5.out.no7 H6.out.1 H6.out.2 h7) (S5.out.m.grown hg6))
 have S6:=Lib.hid (S5.out.grown hg6 hA6)
 have R6:=Lib.hid (R5.out.grown hg6 (fun e => by injection e with e;exact HQ.out.1 e))
 have W6:=Lib.hid hW6
 have HG:Hid (g ≠ w.heap.size + 1 ∧ w.heap.size + 2 ≤ g):=⟨by have:=S5.out.lt;omega,by have:=S5.out.lt;omega⟩
 have T7:=Lib.hid (T5.out.to7 H6.out.1 H6.out.2 h7)
 have HT:Hid (∀ t,1 ≤ t → t ≤ (Im.of L n).ni → ((Im.of L n).ino t).kind ≠ 0 → (Im.of L n).Tree t):=fun t h1 h2 hk => Im.trees_ok h7 h1 h2 hk
 clear S5 R5 O5 hg6 hgl hA6 hW6 h7 H6 HO T5
 go_wp2_with fail
 refine (ckBlocks_any (w.heap.size + 1) b off cap (Im.of L n) HX.out _ _ _ _ _ q g o w6 ⟨S6.out.ckX R6.out,W6.out⟩).mono ?_
 rintro e w7 ⟨hS,hb7⟩
 have S7:=Lib.hid (S6.out.below hb7)
 have R7:=Lib.hid (R6.out.below hb7)
 have W7:=Lib.hid (W6.out.below hb7)
 clear S6 R6 W6 hb7
 rcases hS with ⟨h8,rfl⟩ | ⟨h8,rfl⟩
 rotate_left
 ·exact ex_thrown rfl rfl S7.out.m.r (ExPost.no rfl (by decide) (T7.out.no8 h8) S7.out.m)
 have H8:=Lib.hid h8
 clear h8
 go_wp2_with fail
 refine (ckDirs_any (w.heap.size + 1) b off cap (Im.of L n) HX.out HM.out HT.out _ _ _ _ q w7 S7.out.lt.2.2 HQ.out.1 (S7.out.ckX R7.out)).mono ?_
 rintro e w8 ⟨hg8,hp⟩
 rcases hp with ⟨h9,rfl⟩ | ⟨u,ug,h9,rfl,hul,hA8,hU8⟩
 ·exact ex_thrown rfl rfl (S7.out.m.grown hg8).r (ExPost.no rfl (by decide) (T7.out.no9 H8.out h9) (S7.out.m.grown hg8))
 have S8:=Lib.hid (S7.out.grown hg8 hA8)
 have R8:=Lib.hid (R7.out.grown hg8 (fun e => by injection e with e;exact HQ.out.1 e))
 have W8:=Lib.hid (W7.out.grown hg8 (fun e => by injection e with e;exact HG.out.1 e))
 have U8:=Lib.hid hU8
 have HU:Hid (ug ≠ w.heap.size + 1):=by show _ ≠ _;have:=S7.out.lt;omega
 have T9:=Lib.hid (T7.out.to9 H8.out h9)
 have HB:=Lib.hid (Im.dirs_bd HM.out h9)
 clear S7 R7 W7 hg8 hul hA8 hU8 h9 T7 H8 HT
 go_wp2_with fail
 refine (ckLinks_any (w.heap.size + 1) b off cap (Im.of L n) HX.out _ _ _ q ug _ u HB.out w8 S8.out.lt.2.2 HQ.out.1 HU.out (S8.out.ckX R8.out) U8.out).mono ?_
 rintro e w9 ⟨hg9,hS,hq⟩
 rcases hS with ⟨h10,rfl⟩ | ⟨h10,rfl⟩
 rotate_left
 ·exact ex_thrown rfl rfl (S8.out.m.grown hg9).r (ExPost.no rfl (by decide) (T9.out.no10 h10) (S8.out.m.grown hg9))
 obtain ⟨sl,hA9⟩:=hq h10
 have S9:=Lib.hid (S8.out.grown hg9 hA9)
 have R9:=Lib.hid (R8.out.grown hg9 (fun e => by injection e with e;exact HQ.out.1 e))
 have W9:=Lib.hid (W8.out.grown hg9 (fun e => by injection e with e;exact HG.out.1 e))
 have U9:=Lib.hid (U8.out.grown S8.out.a HU.out hg9)
 have H10:=Lib.hid h10
 clear S8 R8 W8 U8 hg9 hA9 h10 hq
 go_wp2_with fail
 refine (ckReached_any (w.heap.size + 1) b off cap (Im.of L n) HX.out _ _ _ _ q ug _ u HB.out w9 S9.out.a.lt S9.out.lt.2.1 R9.out.lt HU.out (S9.out.ckX R9.out) U9.out).mono ?_
 rintro e w10 ⟨hb10,hS⟩
 have S10:=Lib.hid (S9.out.below hb10)
 have R10:=Lib.hid (R9.out.below hb10)
 have W10:=Lib.hid (W9.out.below hb10)
 clear S9 R9 W9 U9 hb10
 rcases hS with ⟨h11,rfl⟩ | ⟨h11,rfl⟩
 rotate_left
 ·exact ex_thrown rfl rfl S10.out.m.r (ExPost.no rfl (by decide) (T9.out.no11 H10.out h11) S10.out.m)
 have H11:=Lib.hid h11
 clear h11
 go_wp2_with fail
 refine (ckCounts_any (w.heap.size + 1) b off cap dc (Im.of L n) HX.out _ _ _ _ q db 0 w10 S10.out.a.lt S10.out.lt.2.1 R10.out.lt S10.out.dl.2 (S10.out.ckX R10.out) S10.out.d).mono ?_
 rintro e w11 ⟨hS,hb11⟩
 have S11:=Lib.hid (S10.out.below hb11)
 have W11:=Lib.hid (W10.out.below hb11)
 clear S10 R10 W10 hb11
 rcases hS with ⟨h12,rfl⟩ | ⟨h12,rfl⟩
 rotate_left
 ·exact ex_thrown rfl rfl S11.out.m.r (ExPost.no rfl (by decide) (T9.out.no12 H10.out H11.out h12) S11.out.m)
 have HE:Hid ((Im.of L n).exam = (0,o)):=T9.out.yes H10.out H11.out h12
 have hc:=S11.out.m.r.cell (i:=0) (v:=.int .i64 0) rfl
 have hz':=soft_of_heap S11.out.m.r 0
 have ho:=Only.setCell w11 ⟨w.heap.size,0,none⟩ (.int .i64 0)
 have HP:Hid (ExPost w (.slice (some ⟨b,off,none⟩) n cap) n L (.returned (.tuple #[.pointer (some ⟨w.heap.size + 1,0,none⟩),.int .i64 0])) (w11.setCell ⟨w.heap.size,0,none⟩ (.int .i64 0))):=by
  refine ⟨w.heap.size + 1,by rw [HE.out];rfl,S11.out.m.bel.trans (ho.below (Nat.le_refl _)),fun _ => ⟨HX.out,_,_,_,_,_,g,S11.out.a.only ho (by show w.heap.size + 1 ≠ w.heap.size;omega),?_,by have:=HG.out.2;omega,Ne.symm HG.out.1⟩⟩
  rw [HE.out]
  exact W11.out.only ho (by show g ≠ w.heap.size;have:=HG.out.2;omega)
 have hR:=(S11.out.m.r.setCell 0 (.int .i64 0)).cell (i:=0) (v:=.int .i64 0) rfl
 clear S11 W11 h12 H10 H11 T9 HB HU HG HQ HX HM HNI ho
 go_wp2_with fail
 exact ex_back rfl rfl hR HP.out
theorem ckExamine_all (v:Value) (n:Nat) (L:Nat → Nat → Int) (hL:∀ i,Byt (L i)) (hn9:n ≤ 4294967296) (w:World) (hT:Tab w) (hv:ImV w v n L) :
  Calls Tryz.prog 37 #[v] w fun e w' => ExPost w v n L e w':=by
 obtain ⟨a,cap,rfl,h⟩:=hv
 by_cases hn:0 < n
 ·obtain ⟨b,off,rfl,hb,hs⟩:=h hn
  exact ckExamine_any b off n cap L hL hn hn9 w hT hb hs
 ·obtain rfl:n = 0:=by omega
  refine (ckExamine_none a cap L w).mono ?_
  rintro e w' ⟨⟨p,rfl⟩,hb⟩
  have h1:(Im.of L 0).exam = (1,fun _ => 0):=Im.exam_1 (by unfold Im.ck1;rfl)
  exact ⟨p,by rw [h1];rfl,hb,fun e => by rw [h1] at e;cases e⟩
theorem ckRule_any (v:Value) (n:Nat) (L:Nat → Nat → Int) (hL:∀ i,Byt (L i)) (hn9:n ≤ 4294967296) (w:World) (hT:Tab w) (hv:ImV w v n L) :
  Calls Tryz.prog 22 #[v] w fun e w' => e = .returned (.int .i64 (((Im.of L n).exam.1:Nat):Int)) ∧ Below w.heap.size w w':=by
 have HE:=Lib.hid (ckExamine_all v n L hL hn9 w hT hv)
 clear hT hv hL
 go_enter Tryz.func22,Tryz.ntmps22
 go_wp2_with fail
 refine HE.out.mono ?_
 rintro e w1 ⟨p,rfl,hb,_⟩
 have HB:=Lib.hid hb
 clear hb HE
 go_wp2_with fail
 go_ret
 exact ⟨rfl,HB.out⟩
theorem ckImage_any (v:Value) (n:Nat) (L:Nat → Nat → Int) (hL:∀ i,Byt (L i)) (hn9:n ≤ 4294967296) (w:World) (hT:Tab w) (hv:ImV w v n L) :
  Calls Tryz.prog 15 #[v] w fun e w' => (((Im.of L n).exam.1 ≠ 0 ∧ e = .returned (.tuple #[sval 0 0 0 0 0,.int .i64 200])) ∨ ((Im.of L n).exam.1 = 0 ∧ (Im.of L n).Ok ∧ e = .returned (.tuple #[sval (Im.of L n).g (Im.of L n).s (Im.of L n).i (Im.of L n).j (Im.of L n).o,.int .i64 0]))) ∧ Below w.heap.size w w':=by
 have hzs:=zero_super
 have hA0:=At.new w 47 (scells 0 0 0 0 0)
 have hb0:Below w.heap.size w (w.alloc (.cells (scells 0 0 0 0 0) 47)):=(Below.refl _ _).alloc (Nat.le_refl _) _
 have HE:=Lib.hid (ckExamine_all v n L hL hn9 _ (hT.below hb0 (Nat.le_refl _)) (hv.below hb0))
 have HA0:=Lib.hid hA0
 have HB0:=Lib.hid hb0
 clear hT hv hL hA0 hb0
 go_enter Tryz.func15,Tryz.ntmps15
 go_wp2_with fail
 refine HE.out.mono ?_
 rintro e w1 ⟨p,rfl,hb,hx⟩
 have hr:=HA0.out.below hb HA0.out.lt
 have HB:=Lib.hid (HB0.out.trans (hb.mono HB0.out.size))
 have HX:=Lib.hid hx
 clear hb HE hx HA0 HB0
 obtain ⟨K,hK⟩:∃ K,K = (((Im.of L n).exam.1:Nat):Int):=⟨_,rfl⟩
 rw [← hK]
 have HK:=Lib.hid hK
 clear hK
 by_cases h0:K = 0
 ·have q0:(K != 0) = false:=by simp [h0]
  have e0:(Im.of L n).exam.1 = 0:=by have:=HK.out;omega
  obtain ⟨hok,ds,ino,orp,sl,un,g,hA,hR,hg,hpg⟩:=HX.out e0
  have HO:=Lib.hid hok
  have E0:=Lib.hid e0
  have hrg:w1.rangeAt p 1 (scells (Im.of L n).g (Im.of L n).s (Im.of L n).i (Im.of L n).j (Im.of L n).o).toList:=fun k v' hk => by
   match k,hk with
   | 0,hk => injection hk with hk;subst hk;exact hA.cell (i:=1) rfl
   | 1,hk => injection hk with hk;subst hk;exact hA.cell (i:=2) rfl
   | 2,hk => injection hk with hk;subst hk;exact hA.cell (i:=3) rfl
   | 3,hk => injection hk with hk;subst hk;exact hA.cell (i:=4) rfl
   | 4,hk => injection hk with hk;subst hk;exact hA.cell (i:=5) rfl
   | k + 5,hk => cases hk
  clear h0 HX hA hR hg hpg hok e0
  go_wp2_with (first | (refine wp_loadMid rfl 47 _ rfl p 1 (scells (Im.of L n).g (Im.of L n).s (Im.of L n).i (Im.of L n).j (Im.of L n).o).toList _ rfl hrg Tryz.underlying47 rfl (by kernel_rfl) ?_) | (refine wp_storeAt rfl 47 (.tmp 2) (.tmp 17) rfl w.heap.size (scells (Im.of L n).g (Im.of L n).s (Im.of L n).i (Im.of L n).j (Im.of L n).o) (scells 0 0 0 0 0) rfl rfl hr info_super rfl (all_s _ _ _ _ _) ?_))
  intro w9 hR9 ho9
  clear hrg hr
  go_wp2_with fail
  exact bodyPost_ret (results_sup2 rfl _ _ w.heap.size _ _ _ _ _ rfl hR9) rfl ⟨.inr ⟨E0.out,HO.out,rfl⟩,HB.out.trans (ho9.below (Nat.le_refl _))⟩
 ·have q0:(K != 0) = true:=by simp [h0]
  have E0:Hid ((Im.of L n).exam.1 ≠ 0):=by show _ ≠ _;have:=HK.out;omega
  clear h0 HX
  go_wp2_with (first | (refine wp_storeAt rfl 47 (.tmp 2) (.tmp 13) rfl w.heap.size (scells 0 0 0 0 0) (scells 0 0 0 0 0) rfl rfl hr info_super rfl (all_s _ _ _ _ _) ?_))
  intro w9 hR9 ho9
  clear hr
  go_wp2_with fail
  exact bodyPost_ret (results_sup2 rfl _ _ w.heap.size _ _ _ _ _ rfl hR9) rfl ⟨.inl ⟨E0.out,rfl⟩,HB.out.trans (ho9.below (Nat.le_refl _))⟩
theorem ckQuiet_any (v:Value) (n:Nat) (L:Nat → Nat → Int) (hL:∀ i,Byt (L i)) (hn9:n ≤ 4294967296) (w:World) (hT:Tab w) (hv:ImV w v n L) :
  Calls Tryz.prog 26 #[v] w fun e w' => e = .returned (.bool (decide ((Im.of L n).exam.1 = 0 ∧ (Im.of L n).o = 0))) ∧ Below w.heap.size w w':=by
 have HE:=Lib.hid (ckExamine_all v n L hL hn9 w hT hv)
 clear hT hv hL
 go_enter Tryz.func26,Tryz.ntmps26
 go_wp2_with fail
 refine HE.out.mono ?_
 rintro e w1 ⟨p,rfl,hb,hx⟩
 have HB:=Lib.hid hb
 have HX:=Lib.hid hx
 clear hb HE hx
 obtain ⟨K,hK⟩:∃ K,K = (((Im.of L n).exam.1:Nat):Int):=⟨_,rfl⟩
 rw [← hK]
 have HK:=Lib.hid hK
 clear hK
 by_cases h0:K = 0
 ·have q0:(K == 0) = true:=by simp [h0]
  have e0:(Im.of L n).exam.1 = 0:=by have:=HK.out;omega
  obtain ⟨hok,ds,ino,orp,sl,un,g,hA,hR,hg,hpg⟩:=HX.out e0
  have E0:=Lib.hid e0
  obtain ⟨O,hO⟩:∃ O,O = (((Im.of L n).o:Nat):Int):=⟨_,rfl⟩
  have c5:w1.cell? ⟨p,5,none⟩ = some (.int .u32 O):=by rw [hO];exact hA.cell (i:=5) rfl
  have HO:=Lib.hid hO
  clear h0 HX hA hR hg hpg hok e0 hO
  go_wp2_with fail
  go_ret
  refine ⟨?_,HB.out⟩
  have:(O == 0) = decide ((Im.of L n).exam.1 = 0 ∧ (Im.of L n).o = 0):=by
   rw [HO.out,E0.out]
   by_cases h:(Im.of L n).o = 0
   ·simp [h]
   ·simp [h]
  rw [this];rfl
 ·have q0:(K == 0) = false:=by simp [h0]
  have E0:Hid ((Im.of L n).exam.1 ≠ 0):=by show _ ≠ _;have:=HK.out;omega
  clear h0 HX
  go_wp2_with fail
  go_ret
  exact ⟨by rw [decide_eq_false (fun h => E0.out h.1)];rfl,HB.out⟩
def OwnPost (w:World) (n:Nat) (L:Nat → Nat → Int) (e:Ending) (w':World):Prop :=
 Below w.heap.size w w' ∧ (((Im.of L n).exam.1 ≠ 0 ∧ e = .returned (.slice none 0 0)) ∨ ((Im.of L n).exam.1 = 0 ∧ (Im.of L n).Ok ∧ ∃ g,e = .returned (.slice (some ⟨g,0,none⟩) n n) ∧ w.heap.size ≤ g ∧ RArr w' g 3 1 n (ownF (Im.of L n).exam.2)))
theorem ckOwners_any (v:Value) (n:Nat) (L:Nat → Nat → Int) (hL:∀ i,Byt (L i)) (hn9:n ≤ 4294967296) (w:World) (hT:Tab w) (hv:ImV w v n L) :
  Calls Tryz.prog 14 #[v] w fun e w' => OwnPost w n L e w':=by
 have HE:=Lib.hid (ckExamine_all v n L hL hn9 w hT hv)
 clear hT hv hL
 go_enter Tryz.func14,Tryz.ntmps14
 go_wp2_with fail
 refine HE.out.mono ?_
 rintro e w1 ⟨p,rfl,hb,hx⟩
 have HB:=Lib.hid hb
 have HX:=Lib.hid hx
 clear hb HE hx
 obtain ⟨K,hK⟩:∃ K,K = (((Im.of L n).exam.1:Nat):Int):=⟨_,rfl⟩
 rw [← hK]
 have HK:=Lib.hid hK
 clear hK
 by_cases h0:K = 0
 ·have q0:(K != 0) = false:=by simp [h0]
  have e0:(Im.of L n).exam.1 = 0:=by have:=HK.out;omega
  obtain ⟨hok,ds,ino,orp,sl,un,g,hA,hR,hg,hpg⟩:=HX.out e0
  have c13:w1.cell? ⟨p,13,none⟩ = some (.slice (some ⟨g,0,none⟩) n n):=hA.cell (i:=13) rfl
  have HF:Hid ((Im.of L n).exam.1 = 0 ∧ (Im.of L n).Ok ∧ w.heap.size ≤ g ∧ RArr w1 g 3 1 n (ownF (Im.of L n).exam.2)):=⟨e0,hok,hg,hR⟩
  clear h0 HX hA hR hg hpg hok e0
  go_wp2_with fail
  go_ret
  exact ⟨HB.out,.inr ⟨HF.out.1,HF.out.2.1,g,rfl,HF.out.2.2⟩⟩
 ·have q0:(K != 0) = true:=by simp [h0]
  have E0:Hid ((Im.of L n).exam.1 ≠ 0):=by show _ ≠ _;have:=HK.out;omega
  clear h0 HX
  go_wp2_with fail
  go_ret
  exact ⟨HB.out,.inl ⟨E0.out,rfl⟩⟩
theorem plA_bd (n:Nat) (hn:n ≤ 1) (lk:Int) (hl:-9223372036854775808 ≤ lk ∧ lk ≤ 9223372036854775807):(plA n lk).Bd :=
 ⟨by show (n:Int) ≤ _;omega,by show (0:Int) ≤ _;decide,fun _ => by show (2:Int) ≤ _;decide,fun _ => by show (1:Int) ≤ _;decide,fun _ _ => by show (1:Int) ≤ _;decide,fun _ => by show (0:Int) ≤ 1 ∧ (1:Int) < 256;decide,
  fun _ => by show (-9223372036854775808:Int) ≤ 3000 ∧ (3000:Int) ≤ _;decide,fun _ => hl,fun _ k => by show (-9223372036854775808:Int) ≤ (if k = 0 then 1 else 9) ∧ (if k = 0 then (1:Int) else 9) ≤ _;split <;> decide,
  fun _ _ => by show (-9223372036854775808:Int) ≤ 0 ∧ (0:Int) ≤ _;decide,fun _ => by show (-9223372036854775808:Int) ≤ 0 ∧ (0:Int) ≤ _;decide,fun _ => by show (-9223372036854775808:Int) ≤ 0 ∧ (0:Int) ≤ _;decide,fun _ => by show (0:Int) ≤ 0 ∧ (0:Int) < 256;decide⟩
theorem plA_small (n:Nat) (hn:n ≤ 1) (lk:Int):(plA n lk).Small:=by
 refine ⟨by show n ≤ 300;omega,by show 0 ≤ 100;decide,?_,fun i _ k _ => by show (1:Nat) ≤ 1000;decide⟩
 show (plA n lk).cn n ≤ 1000
 have:n = 0 ∨ n = 1:=by omega
 rcases this with rfl | rfl
 ·show 0 ≤ 1000;decide
 ·show 0 + (2 + 1) ≤ 1000;decide
def AwImg (P:PlanD) (w:World) (n:Nat) (e:Ending) (w':World):Prop :=
 Below w.heap.size w w' ∧ ∃ q,e = .returned (.slice (some ⟨q,0,none⟩) n n) ∧ w.heap.size ≤ q ∧ RArr w' q 32 256 n (bkF (P.img xA)) ∧ ∀ b,Byt (P.img xA b)
theorem aw_img {P:PlanD} {w:World} {n:Nat} (hn:n = 66) {e:Ending} {w':World} (h:ImgPost 1 24 8 40 P w e w'):AwImg P w n e w':=by
 subst hn
 obtain ⟨hb,h⟩:=h
 refine ⟨hb,?_⟩
 rcases h with ⟨hm,-⟩ | ⟨x,q,hx,hxm,e1,e2,e3,e4,rfl,hq,hr,hy⟩
 ·rw [mayA] at hm;cases hm
 ·have g1:x.g = 1:=by omega
  have g2:x.s = 24:=by omega
  have g3:x.i = 8:=by omega
  have g4:x.j = 40:=by omega
  have hxA:x = xA:=by rw [hxm,g1,g2,g3,g4]
  subst hxA
  exact ⟨q,rfl,hq,hr,hy⟩
def dA (b:Nat):PlAd:=⟨some ⟨b + 2,0,none⟩,1,none,0,fun _ => some ⟨b,0,none⟩,fun _ => 2,fun _ => some ⟨b + 1,0,none⟩,fun _ => 1⟩
def d0A:PlAd:=⟨none,0,none,0,fun _ => none,fun _ => 0,fun _ => none,fun _ => 0⟩
theorem d0_rows (lk:Int) (B:Nat) (W:World):PlnR B d0A (plA 0 lk) W :=
 ⟨⟨.inl rfl,fun _ _ e => by cases e⟩,fun i hi => absurd hi (Nat.not_lt_zero _),fun i hi => absurd hi (Nat.not_lt_zero _),⟨.inl rfl,fun _ _ e => by cases e⟩⟩
abbrev flA (b:Nat) (lk:Int):Array Value:=#[.int .u8 1,.int .i64 3000,.slice (some ⟨b,0,none⟩) 2 2,.slice (some ⟨b + 1,0,none⟩) 1 1,.bool false,.int .i64 lk]
abbrev plAr (b:Nat):Array Value:=#[.int .i64 1,.int .i64 24,.int .i64 8,.int .i64 40,.slice (some ⟨b + 2,0,none⟩) 1 1,.slice none 0 0,.bool false]
structure Aw2S (b:Nat) (lk:Int) (w W:World):Prop where
 g:At W w.heap.size 23 (gcells 1 24 8 40)
 i:At W b 3 #[.int .i64 1,.int .i64 9]
 n:At W (b + 1) 80 #[.int .i64 0,.string nmA]
 f:At W (b + 2) 78 (flA b lk)
 p:At W (b + 3) 27 (plAr b)
 bel:Below w.heap.size w W
 lb:w.heap.size < b
section
variable {b:Nat} {lk:Int} {w W W':World}
theorem Aw2S.below (h:Aw2S b lk w W) (hb:Below W.heap.size W W'):Aw2S b lk w W' :=
 ⟨h.g.below hb h.g.lt,h.i.below hb h.i.lt,h.n.below hb h.n.lt,h.f.below hb h.f.lt,h.p.below hb h.p.lt,h.bel.trans (hb.mono h.bel.size),h.lb⟩
theorem Aw2S.rows (h:Aw2S b lk w W):PlnR W.heap.size (dA b) (plA 1 lk) W:=by
 have hr:∀ {T:TypeId} {cs:Array Value} {g m n:Nat} {f:Nat → List Value},At W g T cs → (∀ i,i < n → ∀ j v,(f i)[j]? = some v → cs[i * m + j]? = some v) → OldR W.heap.size W (some ⟨g,0,none⟩) m n f:=fun {T cs g m n f} hA hf =>
  ⟨.inr ⟨g,0,rfl,fun i hi j v hv => by rw [Nat.zero_add];exact hA.cell (hf i hi j v hv)⟩,fun b off e _ => by injection e with e;injection e with e;subst e;exact hA.lt⟩
 refine ⟨hr h.f fun i hi j v hv => ?_,fun i hi => hr h.i fun k hk j v hv => ?_,fun i hi => hr h.n fun k hk j v hv => ?_,⟨.inl rfl,fun _ _ e => by cases e⟩⟩
 ·obtain rfl:i = 0:=by have:i < 1:=hi;omega
  rw [show 0 * 6 + j = j by omega,← Array.getElem?_toList]
  exact hv
 ·have hk:k < 2:=hk
  have hj:j = 0:=by
   rcases Nat.eq_zero_or_pos j with h | h
   ·exact h
   ·obtain ⟨j',rfl⟩:∃ j',j = j' + 1:=⟨j - 1,by omega⟩
    cases hv
  subst hj
  have:k = 0 ∨ k = 1:=by omega
  rcases this with rfl | rfl <;> exact hv
 ·obtain rfl:k = 0:=by have:k < 1:=hk;omega
  rw [show 0 * 2 + j = j by omega,← Array.getElem?_toList]
  exact hv
theorem Aw2S.img (h:Aw2S b lk w W) (hl:lk = 0 ∨ lk = 1) {n:Nat} (hn:n = 66):Calls Tryz.prog 9 #[.agg (plAr b)] W fun e w' => AwImg (plA 1 lk) W n e w' :=
 (image20_any 1 24 8 40 (dA b) (plA 1 lk) (plA_bd 1 (by decide) lk (by omega)) (plA_small 1 (by decide) lk) W h.rows).mono fun e w' h => aw_img hn h
end
theorem run_nm20 (x:Int) (s:ByteArray) (W:World):(Instr.buildSlice 76 1 #[(0,.agg #[.int .i64 x,.string s])]).run Tryz.prog W = .ok (.slice (some ⟨W.heap.size,0,none⟩) 1 1) (W.alloc (.cells #[.int .i64 x,.string s] 80)):=by kernel_rfl
theorem run_fl20 (k s:Int) (a:Option Addr) (n c:Nat) (a':Option Addr) (n' c':Nat) (o:Bool) (l:Int) (W:World):(Instr.buildSlice 24 1 #[(0,.agg #[.int .u8 k,.int .i64 s,.slice a n c,.slice a' n' c',.bool o,.int .i64 l])]).run Tryz.prog W = .ok (.slice (some ⟨W.heap.size,0,none⟩) 1 1) (W.alloc (.cells #[.int .u8 k,.int .i64 s,.slice a n c,.slice a' n' c',.bool o,.int .i64 l] 78)):=by kernel_rfl
theorem aw_img0 {n:Nat} (hn:n = 66) (w:World):Calls Tryz.prog 9 #[.agg #[.int .i64 1,.int .i64 24,.int .i64 8,.int .i64 40,.slice none 0 0,.slice none 0 0,.bool false]] w fun e w' => AwImg (plA 0 0) w n e w' :=
 (image20_any 1 24 8 40 d0A (plA 0 0) (plA_bd 0 (by decide) 0 (by decide)) (plA_small 0 (by decide) 0) w (d0_rows 0 _ _)).mono fun e w' h => aw_img hn h
structure Aw3S (b:Nat) (lk:Int) (q0 q1 g2 n:Nat) (L0 L1:Nat → Nat → Int) (w W:World):Prop where
 s:Aw2S b lk w W
 l:RArr W q0 32 256 n (bkF L0)
 m:RArr W q1 32 256 n (bkF L1)
 o:RArr W g2 3 1 n (ownF o4A)
theorem Aw3S.below {b:Nat} {lk:Int} {q0 q1 g2 n:Nat} {L0 L1:Nat → Nat → Int} {w W W':World} (h:Aw3S b lk q0 q1 g2 n L0 L1 w W) (hb:Below W.heap.size W W'):Aw3S b lk q0 q1 g2 n L0 L1 w W' :=
 ⟨h.s.below hb,h.l.below hb,h.m.below hb,h.o.below hb⟩
theorem imv_of {W:World} {q n:Nat} {L:Nat → Nat → Int} (h:RArr W q 32 256 n (bkF L)):ImV W (.slice (some ⟨q,0,none⟩) n n) n L:=⟨_,_,rfl,fun _ => ⟨q,0,rfl,h.lt,h.seg⟩⟩
theorem aw_rule {n k:Nat} (hn:n ≤ 4294967296) {L:Nat → Nat → Int} (hL:∀ b,Byt (L b)) (hk:(Im.of L n).exam.1 = k) {q:Nat} {W:World} (hT:Tab W) (h:RArr W q 32 256 n (bkF L)):Calls Tryz.prog 22 #[.slice (some ⟨q,0,none⟩) n n] W fun e w' => e = .returned (.int .i64 (k:Int)) ∧ Below W.heap.size W w':=by
 have:=ckRule_any (.slice (some ⟨q,0,none⟩) n n) n L hL hn W hT (imv_of h)
 rw [hk] at this
 exact this
theorem aw_ruleN {W:World} (hT:Tab W):Calls Tryz.prog 22 #[.slice none 0 0] W fun e w' => e = .returned (.int .i64 1) ∧ Below W.heap.size W w':=by
 have:=ckRule_any (.slice none 0 0) 0 (fun _ _ => 0) (fun _ => zero_byt) (by decide) W hT ⟨none,0,rfl,fun h => absurd h (Nat.lt_irrefl _)⟩
 rw [exam_none] at this
 exact this
theorem awake20_any (w:World) (hT:Tab w):Calls Tryz.prog 13 #[] w fun e w' => e = .returned (.bool true) ∧ Below w.heap.size w w':=by
 obtain ⟨n,hn⟩:∃ n,n = 66:=⟨_,rfl⟩
 have HN:=Lib.hid hn
 have HT:=Lib.hid hT
 have hA0:=At.new w 23 (gcells 0 0 0 0)
 clear hn hT
 go_enter Tryz.func13,Tryz.ntmps13
 go_wp2_with fail
 refine (aw_img0 HN.out _).mono ?_
 rintro e w1 ⟨hb1,q0,rfl,hq0,hl0,hy0⟩
 have hg1:At w1 w.heap.size 23 (gcells 1 24 8 40):=(At.new w 23 (gcells 1 24 8 40)).below hb1 (by simp)
 have hbel1:Below w.heap.size w w1:=((Below.refl _ _).alloc (Nat.le_refl _) _).trans (hb1.mono (by simp))
 have hs1:=hg1.lt
 have hb2:=run_int2c 1 9
 have hb3:=run_nm20 0 ⟨#[97]⟩
 have hb4:=run_fl20 1 3000
 have HG1:=Lib.hid hg1
 have HL0:=Lib.hid hl0
 have HY0:=Lib.hid hy0
 have HBEL:=Lib.hid hbel1
 clear hb1 hl0 hy0 hbel1 hA0
 go_wp2_with (first | (refine wp_loadAtG rfl 23 (.tmp 1) rfl _ _ _ rfl hg1 Tryz.underlying23 rfl (by kernel_rfl) ?_))
 obtain ⟨b,hb⟩:∃ b,b = w1.heap.size:=⟨_,rfl⟩
 have ST0:Hid (Aw2S b 0 w ((((w1.alloc (.cells #[.int .i64 1,.int .i64 9] 3)).alloc (.cells #[.int .i64 0,.string nmA] 80)).alloc (.cells (flA b 0) 78)).alloc (.cells (plAr b) 27))):=by
  have e1:Below w1.heap.size w1 (w1.alloc (.cells #[.int .i64 1,.int .i64 9] 3)):=(Below.refl _ _).alloc (Nat.le_refl _) _
  have e4:Below w1.heap.size w1 ((((w1.alloc (.cells #[.int .i64 1,.int .i64 9] 3)).alloc (.cells #[.int .i64 0,.string nmA] 80)).alloc (.cells (flA b 0) 78)).alloc (.cells (plAr b) 27)) :=
   (((e1.alloc (by simp) _).alloc (by simp;omega) _).alloc (by simp;omega) _)
  refine ⟨HG1.out.below e4 hs1,?_,?_,?_,?_,HBEL.out.trans (e4.mono HBEL.out.size),by omega⟩
  ·have:=(((At.new w1 3 #[.int .i64 1,.int .i64 9]).alloc (.cells #[.int .i64 0,.string nmA] 80)).alloc (.cells (flA b 0) 78)).alloc (.cells (plAr b) 27)
   rwa [← hb] at this
  ·have:=((At.new (w1.alloc (.cells #[.int .i64 1,.int .i64 9] 3)) 80 #[.int .i64 0,.string nmA]).alloc (.cells (flA b 0) 78)).alloc (.cells (plAr b) 27)
   rwa [World.size_alloc,← hb] at this
  ·have:=(At.new ((w1.alloc (.cells #[.int .i64 1,.int .i64 9] 3)).alloc (.cells #[.int .i64 0,.string nmA] 80)) 78 (flA b 0)).alloc (.cells (plAr b) 27)
   rwa [World.size_alloc,World.size_alloc,← hb] at this
  ·have:=At.new (((w1.alloc (.cells #[.int .i64 1,.int .i64 9] 3)).alloc (.cells #[.int .i64 0,.string nmA] 80)).alloc (.cells (flA b 0) 78)) 27 (plAr b)
   rwa [World.size_alloc,World.size_alloc,World.size_alloc,← hb] at this
 have HL1:Hid (RArr ((((w1.alloc (.cells #[.int .i64 1,.int .i64 9] 3)).alloc (.cells #[.int .i64 0,.string nmA] 80)).alloc (.cells (flA b 0) 78)).alloc (.cells (plAr b) 27)) q0 32 256 n (bkF ((plA 0 0).img xA))):=(((HL0.out.alloc _).alloc _).alloc _).alloc _
 have hq0b:q0 < b:=by rw [hb];exact HL0.out.lt
 have HQ0:Hid (w.heap.size ≤ q0):=by show _ ≤ _;rw [World.size_alloc] at hq0;omega
 subst hb
 clear hb2 hb3 hb4 hg1 HG1 HL0 HBEL hs1
 refine (ST0.out.img (.inl rfl) HN.out).mono ?_
 obtain ⟨b,hb⟩:∃ b,b = w1.heap.size:=⟨_,rfl⟩
 rintro e w2 ⟨hb2,q1,rfl,hq1,hl1,hy1⟩
 have ST1:=Lib.hid (ST0.out.below hb2)
 have HL2:=Lib.hid (HL1.out.below hb2)
 have HM:=Lib.hid hl1
 have HY1:=Lib.hid hy1
 have HQ1:=Lib.hid hq1
 clear ST0 HL1 hb2 hl1 hy1 hq1
 rw [← hb] at ST1 hq0b ⊢
 clear hb
 have hn9:n ≤ 2048:=by have:=HN.out;omega
 have HT2:Hid (Tab w2):=HT.out.below ST1.out.bel (Nat.le_refl _)
 go_wp2_with fail
 refine (ckOwners_any (.slice (some ⟨q1,0,none⟩) n n) n ((plA 1 0).img xA) HY1.out (by omega) w2 HT2.out (imv_of HM.out)).mono ?_
 rintro e w3 ⟨hb3,hO⟩
 have hex1:(Im.of ((plA 1 0).img xA) n).exam = (0,o4A):=by rw [HN.out];exact awExam1
 have hex0:(Im.of ((plA 0 0).img xA) n).exam = (0,fun _ => 0) ∧ (Im.of ((plA 0 0).img xA) n).o = 0:=by rw [HN.out];exact awExam0 0
 rcases hO with ⟨h0,-⟩ | ⟨-,-,g2,rfl,hg2,ho⟩
 ·exact absurd (by rw [hex1]) h0
 rw [hex1] at ho
 obtain ⟨L0,hL0⟩:∃ L0,L0 = (plA 0 0).img xA:=⟨_,rfl⟩
 obtain ⟨L1,hL1⟩:∃ L1,L1 = (plA 1 0).img xA:=⟨_,rfl⟩
 rw [← hL0] at HL2 hex0 HY0
 rw [← hL1] at HM hex1 HY1
 have ST2:Hid (Aw3S b 0 q0 q1 g2 n L0 L1 w w3):=⟨ST1.out.below hb3,HL2.out.below hb3,HM.out.below hb3,ho⟩
 have HX0:=Lib.hid hex0
 have HX1:=Lib.hid hex1
 have HLL:=Lib.hid hL0
 clear ST1 HL2 HM hb3 ho hex0 hex1 hL0 hL1 HQ1 hg2 HT2 hq0
 have HTA:Hid (∀ W,Below w.heap.size w W → Tab W):=fun W h => HT.out.below h (Nat.le_refl _)
 have hmk:=fun W => run_mkrow (P:=Tryz.prog) 29 32 (bval fun _ => 0) 256 256 Tryz.underlying29 info_block3 .i64 .i64 n (by omega) (by omega) W
 have hn1:(n:Int) = 66:=by have:=HN.out;omega
 have HN1:=Lib.hid hn1
 clear hn1
 go_wp2_with fail
 refine (aw_ruleN (HTA.out _ ST2.out.s.bel)).mono ?_
 rintro e w4 ⟨rfl,hb4⟩
 have ST3:=Lib.hid (ST2.out.below hb4)
 clear ST2 hb4
 go_wp2_with fail
 have hex1:(Im.of L0 n).exam.1 = 0:=by rw [HX0.out.1]
 have hex2:(Im.of L1 n).exam.1 = 0:=by rw [HX1.out]
 have hez:(Im.of (fun _ _ => 0) n).exam.1 = 1:=by rw [HN.out];exact awExamZ
 have HE1:=Lib.hid hex1
 have HE2:=Lib.hid hex2
 have HEZ:=Lib.hid hez
 clear hex1 hex2 hez hmk
 have hbz:Below w4.heap.size w4 (w4.alloc (.cells (madeCells (bval fun _ => 0).cells (n * 256)) 32)):=(Below.refl _ _).alloc (Nat.le_refl _) _
 have ST4:=Lib.hid (ST3.out.below hbz)
 have HRZ:Hid (RArr (w4.alloc (.cells (madeCells (bval fun _ => 0).cells (n * 256)) 32)) w4.heap.size 32 256 n (bkF fun _ _ => 0)):=RArr.made (m:=256) w4 (Ks .u8 256 (fun _ => 0)).toArray (by simp [Ks]) (by omega) n 32
 clear ST3 hbz
 refine (aw_rule (L:=fun _ _ => 0) (k:=1) (by omega) (fun _ => zero_byt) HEZ.out (HTA.out _ ST4.out.s.bel) HRZ.out).mono ?_
 rintro e w5 ⟨rfl,hb5⟩
 have ST5:=Lib.hid (ST4.out.below hb5)
 clear ST4 hb5 HRZ
 go_wp2_with fail
 refine (aw_rule (k:=0) (by omega) HY0.out HE1.out (HTA.out _ ST5.out.s.bel) ST5.out.l).mono ?_
 rintro e w6 ⟨rfl,hb6⟩
 have ST6:=Lib.hid (ST5.out.below hb6)
 clear ST5 hb6
 go_wp2_with fail
 refine (ckQuiet_any (.slice (some ⟨q0,0,none⟩) n n) n L0 HY0.out (by omega) w6 (HTA.out _ ST6.out.s.bel) (imv_of ST6.out.l)).mono ?_
 rintro e w7 ⟨rfl,hb7⟩
 have ST7:=Lib.hid (ST6.out.below hb7)
 clear ST6 hb7
 have hqt:decide ((Im.of L0 n).exam.1 = 0 ∧ (Im.of L0 n).o = 0) = true:=decide_eq_true ⟨HE1.out,HX0.out.2⟩
 rw [hqt]
 clear hqt
 go_wp2_with fail
 refine (aw_rule (k:=0) (by omega) HY1.out HE2.out (HTA.out _ ST7.out.s.bel) ST7.out.m).mono ?_
 rintro e w8 ⟨rfl,hb8⟩
 have ST8:=Lib.hid (ST7.out.below hb8)
 clear ST7 hb8
 go_wp2_with fail
 have hcl:∀ t,cntB (fun b => o4A b == 2) t ≤ t:=fun t => cntB_le _ t
 have HCL:=Lib.hid hcl
 clear hcl
 go_loopw [6,7] (fun c u wr => ∃ t:Nat,t ≤ n ∧ u = .int .i64 (t:Int) ∧ c = .int .i64 ((cntB (fun b => o4A b == 2) t:Nat):Int) ∧ Aw3S b 0 q0 q1 g2 n L0 L1 w wr) (fun _ u _ => n - (intOf u).toNat)
 case atStart => exact ⟨0,Nat.zero_le _,rfl,rfl,ST8.out⟩
 case round =>
  clear ST8
  obtain ⟨t,ht,rfl,rfl,st⟩:=hrel
  have ST:=Lib.hid st
  clear st
  have hct:=HCL.out t
  have HCS:Hid (cntB (fun b => o4A b == 2) (t + 1) = cntB (fun b => o4A b == 2) t + if (o4A t == 2) = true then 1 else 0):=rfl
  obtain ⟨ct,hc⟩:∃ ct,ct = cntB (fun b => o4A b == 2) t:=⟨_,rfl⟩
  rw [← hc] at hct HCS ⊢
  have HCC:=Lib.hid hc
  clear hc
  by_cases hlt:t < n
  ·have hlt':(t:Int) < (n:Int):=by omega
   have co:wr.cell? ⟨g2,t,none⟩ = some (.int .i64 ((o4A t:Nat):Int)):=by
    have:=ST.out.o.seg t hlt 0 _ rfl
    rwa [Nat.zero_add,Nat.mul_one,Nat.add_zero] at this
   obtain ⟨ov,hov⟩:∃ ov,ov = o4A t:=⟨_,rfl⟩
   rw [← hov] at co HCS
   clear hov
   by_cases h2:ov = 2
   ·subst h2
    have HC2:Hid (cntB (fun b => o4A b == 2) (t + 1) = ct + 1):=HCS.out
    go_wp2_with fail
    go_roundw
    case rel => first | exact ⟨t + 1,by omega,by go_num,by rw [HC2.out];go_num,ST.out⟩ | ((repeat apply Exists.intro);refine ⟨?_,rfl⟩;exact ⟨t + 1,by omega,by go_num,by rw [HC2.out];go_num,ST.out⟩)
    case measure => simp [intOf];omega
   ·have q2:((ov:Int) == 2) = false:=by simp;omega
    have HC2:Hid (cntB (fun b => o4A b == 2) (t + 1) = ct):=by show _ = _;rw [HCS.out,if_neg (by simpa using h2)];rfl
    go_wp2_with fail
    go_roundw
    case rel => first | exact ⟨t + 1,by omega,by go_num,by rw [HC2.out],ST.out⟩ | ((repeat apply Exists.intro);refine ⟨?_,rfl⟩;exact ⟨t + 1,by omega,by go_num,by rw [HC2.out],ST.out⟩)
    case measure => simp [intOf];omega
  ·obtain rfl:t = n:=by omega
   have h3:ct = 3:=by rw [HCC.out,HN.out];exact awCount
   subst h3
   have hg:=ST.out.s.g
   go_wp2_with (first | (refine wp_loadAtG rfl 23 (.tmp 1) rfl _ _ _ rfl hg Tryz.underlying23 rfl (by kernel_rfl) ?_))
   have hst:Calls Tryz.prog 18 #[gval 1 24 8 40,.int .i64 0] wr fun e w' => e = .returned (.tuple #[.int .i64 42,.bool true]) ∧ Below wr.heap.size wr w':=geoStart_yes 1 24 8 40 0 mayA (by decide) wr
   refine hst.mono ?_
   rintro e w9 ⟨rfl,hb9⟩
   have ST9:=Lib.hid (ST.out.below hb9)
   have h42:(42:Int) < (t:Int):=by have:=HN.out;omega
   clear ST hb9 hg hst HCS HCC HCL
   go_wp2_with fail
   have hbit:bt (L0 42) 0 = true:=by rw [HLL.out,img0,LA_42,bt_bZ];rfl
   refine (bitClearA_any q0 t 42 0 (by omega) (by omega) (by decide) L0 (HY0.out 42) w9 ST9.out.l).mono ?_
   rintro e w10 hcl
   rcases hcl with ⟨h,-⟩ | ⟨-,rfl,hl10,ho10⟩
   ·rw [hbit] at h;cases h
   obtain ⟨cq,hcq,-⟩:=ST9.out.l.blk
   have hLC:updN L0 42 (bZ (clrB (bt (L0 42)) 0)) = LC:=by rw [HLL.out,img0];rfl
   rw [hLC] at hl10
   have ST10:Hid (Aw2S b 0 w w10):=by
    have h:=ST9.out.s
    exact ⟨h.g.only ho10 (At.unlike h.g hcq (by decide)),h.i.only ho10 (At.unlike h.i hcq (by decide)),h.n.only ho10 (At.unlike h.n hcq (by decide)),h.f.only ho10 (At.unlike h.f hcq (by decide)),h.p.only ho10 (At.unlike h.p hcq (by decide)),h.bel.trans (ho10.below HQ0.out),h.lb⟩
   have HLC:=Lib.hid hl10
   clear hbit hl10 ho10 hcq hLC ST9
   have c4:w10.cell? ⟨b + 3,4,none⟩ = some (.slice (some ⟨b + 2,0,none⟩) 1 1):=ST10.out.p.cell (i:=4) rfl
   have c5:w10.cell? ⟨b + 2,5,none⟩ = some (.int .i64 0):=ST10.out.f.cell (i:=5) rfl
   have f5:w10.frozen? ⟨b + 2,5,none⟩ = false:=soft_of_heap ST10.out.f 5
   have ho11:Only (b + 2) w10 (w10.setCell ⟨b + 2,5,none⟩ (.int .i64 1)):=Only.setCell w10 ⟨b + 2,5,none⟩ _
   have ST11:Hid (Aw2S b 1 w (w10.setCell ⟨b + 2,5,none⟩ (.int .i64 1))):=by
    have h:=ST10.out
    have hf:=h.f.setCell 5 (.int .i64 1)
    exact ⟨h.g.only ho11 (At.unlike h.g h.f (by decide)),h.i.only ho11 (At.unlike h.i h.f (by decide)),h.n.only ho11 (At.unlike h.n h.f (by decide)),hf,h.p.only ho11 (At.unlike h.p h.f (by decide)),h.bel.trans (ho11.below (by have:=h.lb;omega)),h.lb⟩
   have HLC2:Hid (RArr (w10.setCell ⟨b + 2,5,none⟩ (.int .i64 1)) q0 32 256 t (bkF LC)):=HLC.out.only ho11 (by omega)
   clear ST10 HLC ho11
   go_wp2_with fail
   have he3:(Im.of LC t).exam.1 = 3:=by rw [HN.out];exact awExam3
   have HE3:=Lib.hid he3
   clear he3 c4 c5 f5
   refine (aw_rule (k:=3) (by omega) LC_byt HE3.out (HTA.out _ ST11.out.bel) HLC2.out).mono ?_
   rintro e w12 ⟨rfl,hb12⟩
   have ST12:=Lib.hid (ST11.out.below hb12)
   clear ST11 hb12 HLC2
   have hp:=ST12.out.p
   go_wp2_with (first | (refine wp_loadAtG rfl 27 (.tmp 3) rfl _ _ _ rfl hp Tryz.underlying27 rfl (by kernel_rfl) ?_))
   refine (ST12.out.img (.inr rfl) HN.out).mono ?_
   rintro e w13 ⟨hb13,q3,rfl,hq3,hl3,hy3⟩
   have ST13:=Lib.hid (ST12.out.below hb13)
   have HL3:=Lib.hid hl3
   have HY3:=Lib.hid hy3
   clear ST12 hb13 hl3 hy3 hq3 hp
   go_wp2_with fail
   have he10:(Im.of ((plA 1 1).img xA) t).exam.1 = 10:=by rw [HN.out];exact awExam10
   refine (aw_rule (k:=10) (by omega) HY3.out he10 (HTA.out _ ST13.out.bel) HL3.out).mono ?_
   rintro e w14 ⟨rfl,hb14⟩
   have HF:Hid (Below w.heap.size w w14):=ST13.out.bel.trans (hb14.mono ST13.out.bel.size)
   clear ST13 hb14 he10
   go_wp2_with fail
   go_ret
   exact ⟨rfl,HF.out⟩
end Go.Proofs.YtphamecphmbipaaGreatDoor
