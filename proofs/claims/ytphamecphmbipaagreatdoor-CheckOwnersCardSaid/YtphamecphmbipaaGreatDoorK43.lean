/- Texts of this claim, merged by a program (a claim may have 60 files): CkQ, Aw2, WCkA, WCkB. -/
import Derived.Test.YtphamecphmbipaaGreatDoorK42
import Derived.Test.YtphamecphmbipaaGreatDoorK26
import Derived.Test.YtphamecphmbipaaGreatDoorK38
import Derived.Test.YtphamecphmbipaaGreatDoorK18
import Derived.Test.YtphamecphmbipaaGreatDoorK24
namespace Go.Proofs.YtphamecphmbipaaGreatDoor
open Go.RowKit
set_option linter.unusedVariables false
set_option maxRecDepth 100000 in
theorem ckRule_any (v:Value) (n:Nat) (L:Nat → Nat → Int) (hL:∀ i,Byt (L i)) (hn9:n ≤ 4294967296) (w:World) (hT:Tab w) (hv:ImV w v n L) :
  Calls Tryz.prog 22 #[v] w fun e w' => e = .returned (.int .i64 (((Im.of L n).exam.1:Nat):Int)) ∧ Below w.heap.size w w':=by
 have HE:=Lib.hid (ckExamine_all v n L hL hn9 w hT hv)
 clear hT hv hL
 go_enter Tryz.func22,Tryz.ntmps22
 go_wp2_with fail
 refine HE.out.mono ?_
 rintro e w1 ⟨p,rfl,hb,_⟩
 have HB:=Lib.hid hb
 clear hb HE
 go_wp2_with fail
 go_ret
 exact ⟨rfl,HB.out⟩
set_option maxRecDepth 100000 in
theorem ckImage_any (v:Value) (n:Nat) (L:Nat → Nat → Int) (hL:∀ i,Byt (L i)) (hn9:n ≤ 4294967296) (w:World) (hT:Tab w) (hv:ImV w v n L) :
  Calls Tryz.prog 15 #[v] w fun e w' => (((Im.of L n).exam.1 ≠ 0 ∧ e = .returned (.tuple #[sval 0 0 0 0 0,.int .i64 200])) ∨ ((Im.of L n).exam.1 = 0 ∧ (Im.of L n).Ok ∧ e = .returned (.tuple #[sval (Im.of L n).g (Im.of L n).s (Im.of L n).i (Im.of L n).j (Im.of L n).o,.int .i64 0]))) ∧ Below w.heap.size w w':=by
 have hzs:=zero_super
 have hA0:=At.new w 47 (scells 0 0 0 0 0)
 have hb0:Below w.heap.size w (w.alloc (.cells (scells 0 0 0 0 0) 47)):=(Below.refl _ _).alloc (Nat.le_refl _) _
 have HE:=Lib.hid (ckExamine_all v n L hL hn9 _ (hT.below hb0 (Nat.le_refl _)) (hv.below hb0))
 have HA0:=Lib.hid hA0
 have HB0:=Lib.hid hb0
 clear hT hv hL hA0 hb0
 go_enter Tryz.func15,Tryz.ntmps15
 go_wp2_with fail
 refine HE.out.mono ?_
 rintro e w1 ⟨p,rfl,hb,hx⟩
 have hr:=HA0.out.below hb HA0.out.lt
 have HB:=Lib.hid (HB0.out.trans (hb.mono HB0.out.size))
 have HX:=Lib.hid hx
 clear hb HE hx HA0 HB0
 obtain ⟨K,hK⟩:∃ K,K = (((Im.of L n).exam.1:Nat):Int):=⟨_,rfl⟩
 rw [← hK]
 have HK:=Lib.hid hK
 clear hK
 by_cases h0:K = 0
 ·have q0:(K != 0) = false:=by simp [h0]
  have e0:(Im.of L n).exam.1 = 0:=by have:=HK.out;omega
  obtain ⟨hok,ds,ino,orp,sl,un,g,hA,hR,hg,hpg⟩:=HX.out e0
  have HO:=Lib.hid hok
  have E0:=Lib.hid e0
  have hrg:w1.rangeAt p 1 (scells (Im.of L n).g (Im.of L n).s (Im.of L n).i (Im.of L n).j (Im.of L n).o).toList:=fun k v' hk => by
   match k,hk with
   | 0,hk => injection hk with hk;subst hk;exact hA.cell (i:=1) rfl
   | 1,hk => injection hk with hk;subst hk;exact hA.cell (i:=2) rfl
   | 2,hk => injection hk with hk;subst hk;exact hA.cell (i:=3) rfl
   | 3,hk => injection hk with hk;subst hk;exact hA.cell (i:=4) rfl
   | 4,hk => injection hk with hk;subst hk;exact hA.cell (i:=5) rfl
   | k + 5,hk => cases hk
  clear h0 HX hA hR hg hpg hok e0
  go_wp2_with (first | (refine wp_loadMid rfl 47 _ rfl p 1 (scells (Im.of L n).g (Im.of L n).s (Im.of L n).i (Im.of L n).j (Im.of L n).o).toList _ rfl hrg Tryz.underlying47 rfl (by kernel_rfl) ?_) | (refine wp_storeAt rfl 47 (.tmp 2) (.tmp 17) rfl w.heap.size (scells (Im.of L n).g (Im.of L n).s (Im.of L n).i (Im.of L n).j (Im.of L n).o) (scells 0 0 0 0 0) rfl rfl hr info_super rfl (all_s _ _ _ _ _) ?_))
  intro w9 hR9 ho9
  clear hrg hr
  go_wp2_with fail
  exact bodyPost_ret (results_sup2 rfl _ _ w.heap.size _ _ _ _ _ rfl hR9) rfl ⟨.inr ⟨E0.out,HO.out,rfl⟩,HB.out.trans (ho9.below (Nat.le_refl _))⟩
 ·have q0:(K != 0) = true:=by simp [h0]
  have E0:Hid ((Im.of L n).exam.1 ≠ 0):=by show _ ≠ _;have:=HK.out;omega
  clear h0 HX
  go_wp2_with (first | (refine wp_storeAt rfl 47 (.tmp 2) (.tmp 13) rfl w.heap.size (scells 0 0 0 0 0) (scells 0 0 0 0 0) rfl rfl hr info_super rfl (all_s _ _ _ _ _) ?_))
  intro w9 hR9 ho9
  clear hr
  go_wp2_with fail
  exact bodyPost_ret (results_sup2 rfl _ _ w.heap.size _ _ _ _ _ rfl hR9) rfl ⟨.inl ⟨E0.out,rfl⟩,HB.out.trans (ho9.below (Nat.le_refl _))⟩
set_option maxRecDepth 100000 in
theorem ckQuiet_any (v:Value) (n:Nat) (L:Nat → Nat → Int) (hL:∀ i,Byt (L i)) (hn9:n ≤ 4294967296) (w:World) (hT:Tab w) (hv:ImV w v n L) :
  Calls Tryz.prog 26 #[v] w fun e w' => e = .returned (.bool (decide ((Im.of L n).exam.1 = 0 ∧ (Im.of L n).o = 0))) ∧ Below w.heap.size w w':=by
 have HE:=Lib.hid (ckExamine_all v n L hL hn9 w hT hv)
 clear hT hv hL
 go_enter Tryz.func26,Tryz.ntmps26
 go_wp2_with fail
 refine HE.out.mono ?_
 rintro e w1 ⟨p,rfl,hb,hx⟩
 have HB:=Lib.hid hb
 have HX:=Lib.hid hx
 clear hb HE hx
 obtain ⟨K,hK⟩:∃ K,K = (((Im.of L n).exam.1:Nat):Int):=⟨_,rfl⟩
 rw [← hK]
 have HK:=Lib.hid hK
 clear hK
 by_cases h0:K = 0
 ·have q0:(K == 0) = true:=by simp [h0]
  have e0:(Im.of L n).exam.1 = 0:=by have:=HK.out;omega
  obtain ⟨hok,ds,ino,orp,sl,un,g,hA,hR,hg,hpg⟩:=HX.out e0
  have E0:=Lib.hid e0
  obtain ⟨O,hO⟩:∃ O,O = (((Im.of L n).o:Nat):Int):=⟨_,rfl⟩
  have c5:w1.cell? ⟨p,5,none⟩ = some (.int .u32 O):=by rw [hO];exact hA.cell (i:=5) rfl
  have HO:=Lib.hid hO
  clear h0 HX hA hR hg hpg hok e0 hO
  go_wp2_with fail
  go_ret
  refine ⟨?_,HB.out⟩
  have:(O == 0) = decide ((Im.of L n).exam.1 = 0 ∧ (Im.of L n).o = 0):=by
   rw [HO.out,E0.out]
   by_cases h:(Im.of L n).o = 0
   ·simp [h]
   ·simp [h]
  rw [this];rfl
 ·have q0:(K == 0) = false:=by simp [h0]
  have E0:Hid ((Im.of L n).exam.1 ≠ 0):=by show _ ≠ _;have:=HK.out;omega
  clear h0 HX
  go_wp2_with fail
  go_ret
  exact ⟨by rw [decide_eq_false (fun h => E0.out h.1)];rfl,HB.out⟩
def OwnPost (w:World) (n:Nat) (L:Nat → Nat → Int) (e:Ending) (w':World):Prop :=
 Below w.heap.size w w' ∧ (((Im.of L n).exam.1 ≠ 0 ∧ e = .returned (.slice none 0 0)) ∨ ((Im.of L n).exam.1 = 0 ∧ (Im.of L n).Ok ∧ ∃ g,e = .returned (.slice (some ⟨g,0,none⟩) n n) ∧ w.heap.size ≤ g ∧ RArr w' g 3 1 n (ownF (Im.of L n).exam.2)))
set_option maxRecDepth 100000 in
theorem ckOwners_any (v:Value) (n:Nat) (L:Nat → Nat → Int) (hL:∀ i,Byt (L i)) (hn9:n ≤ 4294967296) (w:World) (hT:Tab w) (hv:ImV w v n L) :
  Calls Tryz.prog 14 #[v] w fun e w' => OwnPost w n L e w':=by
 have HE:=Lib.hid (ckExamine_all v n L hL hn9 w hT hv)
 clear hT hv hL
 go_enter Tryz.func14,Tryz.ntmps14
 go_wp2_with fail
 refine HE.out.mono ?_
 rintro e w1 ⟨p,rfl,hb,hx⟩
 have HB:=Lib.hid hb
 have HX:=Lib.hid hx
 clear hb HE hx
 obtain ⟨K,hK⟩:∃ K,K = (((Im.of L n).exam.1:Nat):Int):=⟨_,rfl⟩
 rw [← hK]
 have HK:=Lib.hid hK
 clear hK
 by_cases h0:K = 0
 ·have q0:(K != 0) = false:=by simp [h0]
  have e0:(Im.of L n).exam.1 = 0:=by have:=HK.out;omega
  obtain ⟨hok,ds,ino,orp,sl,un,g,hA,hR,hg,hpg⟩:=HX.out e0
  have c13:w1.cell? ⟨p,13,none⟩ = some (.slice (some ⟨g,0,none⟩) n n):=hA.cell (i:=13) rfl
  have HF:Hid ((Im.of L n).exam.1 = 0 ∧ (Im.of L n).Ok ∧ w.heap.size ≤ g ∧ RArr w1 g 3 1 n (ownF (Im.of L n).exam.2)):=⟨e0,hok,hg,hR⟩
  clear h0 HX hA hR hg hpg hok e0
  go_wp2_with fail
  go_ret
  exact ⟨HB.out,.inr ⟨HF.out.1,HF.out.2.1,g,rfl,HF.out.2.2⟩⟩
 ·have q0:(K != 0) = true:=by simp [h0]
  have E0:Hid ((Im.of L n).exam.1 ≠ 0):=by show _ ≠ _;have:=HK.out;omega
  clear h0 HX
  go_wp2_with fail
  go_ret
  exact ⟨HB.out,.inl ⟨E0.out,rfl⟩⟩
theorem plA_bd (n:Nat) (hn:n ≤ 1) (lk:Int) (hl:-9223372036854775808 ≤ lk ∧ lk ≤ 9223372036854775807):(plA n lk).Bd :=
 ⟨by show (n:Int) ≤ _;omega,by show (0:Int) ≤ _;decide,fun _ => by show (2:Int) ≤ _;decide,fun _ => by show (1:Int) ≤ _;decide,fun _ _ => by show (1:Int) ≤ _;decide,fun _ => by show (0:Int) ≤ 1 ∧ (1:Int) < 256;decide,
  fun _ => by show (-9223372036854775808:Int) ≤ 3000 ∧ (3000:Int) ≤ _;decide,fun _ => hl,fun _ k => by show (-9223372036854775808:Int) ≤ (if k = 0 then 1 else 9) ∧ (if k = 0 then (1:Int) else 9) ≤ _;split <;> decide,
  fun _ _ => by show (-9223372036854775808:Int) ≤ 0 ∧ (0:Int) ≤ _;decide,fun _ => by show (-9223372036854775808:Int) ≤ 0 ∧ (0:Int) ≤ _;decide,fun _ => by show (-9223372036854775808:Int) ≤ 0 ∧ (0:Int) ≤ _;decide,fun _ => by show (0:Int) ≤ 0 ∧ (0:Int) < 256;decide⟩
theorem plA_small (n:Nat) (hn:n ≤ 1) (lk:Int):(plA n lk).Small:=by
 refine ⟨by show n ≤ 300;omega,by show 0 ≤ 100;decide,?_,fun i _ k _ => by show (1:Nat) ≤ 1000;decide⟩
 show (plA n lk).cn n ≤ 1000
 have:n = 0 ∨ n = 1:=by omega
 rcases this with rfl | rfl
 ·show 0 ≤ 1000;decide
 ·show 0 + (2 + 1) ≤ 1000;decide
def AwImg (P:PlanD) (w:World) (n:Nat) (e:Ending) (w':World):Prop :=
 Below w.heap.size w w' ∧ ∃ q,e = .returned (.slice (some ⟨q,0,none⟩) n n) ∧ w.heap.size ≤ q ∧ RArr w' q 32 256 n (bkF (P.img xA)) ∧ ∀ b,Byt (P.img xA b)
theorem aw_img {P:PlanD} {w:World} {n:Nat} (hn:n = 66) {e:Ending} {w':World} (h:ImgPost 1 24 8 40 P w e w'):AwImg P w n e w':=by
 subst hn
 obtain ⟨hb,h⟩:=h
 refine ⟨hb,?_⟩
 rcases h with ⟨hm,-⟩ | ⟨x,q,hx,hxm,e1,e2,e3,e4,rfl,hq,hr,hy⟩
 ·rw [mayA] at hm;cases hm
 ·have g1:x.g = 1:=by omega
  have g2:x.s = 24:=by omega
  have g3:x.i = 8:=by omega
  have g4:x.j = 40:=by omega
  have hxA:x = xA:=by rw [hxm,g1,g2,g3,g4]
  subst hxA
  exact ⟨q,rfl,hq,hr,hy⟩
def dA (b:Nat):PlAd:=⟨some ⟨b + 2,0,none⟩,1,none,0,fun _ => some ⟨b,0,none⟩,fun _ => 2,fun _ => some ⟨b + 1,0,none⟩,fun _ => 1⟩
def d0A:PlAd:=⟨none,0,none,0,fun _ => none,fun _ => 0,fun _ => none,fun _ => 0⟩
theorem d0_rows (lk:Int) (B:Nat) (W:World):PlnR B d0A (plA 0 lk) W :=
 ⟨⟨.inl rfl,fun _ _ e => by cases e⟩,fun i hi => absurd hi (Nat.not_lt_zero _),fun i hi => absurd hi (Nat.not_lt_zero _),⟨.inl rfl,fun _ _ e => by cases e⟩⟩
abbrev flA (b:Nat) (lk:Int):Array Value:=#[.int .u8 1,.int .i64 3000,.slice (some ⟨b,0,none⟩) 2 2,.slice (some ⟨b + 1,0,none⟩) 1 1,.bool false,.int .i64 lk]
abbrev plAr (b:Nat):Array Value:=#[.int .i64 1,.int .i64 24,.int .i64 8,.int .i64 40,.slice (some ⟨b + 2,0,none⟩) 1 1,.slice none 0 0,.bool false]
structure Aw2S (b:Nat) (lk:Int) (w W:World):Prop where
 g:At W w.heap.size 23 (gcells 1 24 8 40)
 i:At W b 3 #[.int .i64 1,.int .i64 9]
 n:At W (b + 1) 80 #[.int .i64 0,.string nmA]
 f:At W (b + 2) 78 (flA b lk)
 p:At W (b + 3) 27 (plAr b)
 bel:Below w.heap.size w W
 lb:w.heap.size < b
section
variable {b:Nat} {lk:Int} {w W W':World}
theorem Aw2S.below (h:Aw2S b lk w W) (hb:Below W.heap.size W W'):Aw2S b lk w W' :=
 ⟨h.g.below hb h.g.lt,h.i.below hb h.i.lt,h.n.below hb h.n.lt,h.f.below hb h.f.lt,h.p.below hb h.p.lt,h.bel.trans (hb.mono h.bel.size),h.lb⟩
theorem Aw2S.rows (h:Aw2S b lk w W):PlnR W.heap.size (dA b) (plA 1 lk) W:=by
 have hr:∀ {T:TypeId} {cs:Array Value} {g m n:Nat} {f:Nat → List Value},At W g T cs → (∀ i,i < n → ∀ j v,(f i)[j]? = some v → cs[i * m + j]? = some v) → OldR W.heap.size W (some ⟨g,0,none⟩) m n f:=fun {T cs g m n f} hA hf =>
  ⟨.inr ⟨g,0,rfl,fun i hi j v hv => by rw [Nat.zero_add];exact hA.cell (hf i hi j v hv)⟩,fun b off e _ => by injection e with e;injection e with e;subst e;exact hA.lt⟩
 refine ⟨hr h.f fun i hi j v hv => ?_,fun i hi => hr h.i fun k hk j v hv => ?_,fun i hi => hr h.n fun k hk j v hv => ?_,⟨.inl rfl,fun _ _ e => by cases e⟩⟩
 ·obtain rfl:i = 0:=by have:i < 1:=hi;omega
  rw [show 0 * 6 + j = j by omega,← Array.getElem?_toList]
  exact hv
 ·have hk:k < 2:=hk
  have hj:j = 0:=by
   rcases Nat.eq_zero_or_pos j with h | h
   ·exact h
   ·obtain ⟨j',rfl⟩:∃ j',j = j' + 1:=⟨j - 1,by omega⟩
    cases hv
  subst hj
  have:k = 0 ∨ k = 1:=by omega
  rcases this with rfl | rfl <;> exact hv
 ·obtain rfl:k = 0:=by have:k < 1:=hk;omega
  rw [show 0 * 2 + j = j by omega,← Array.getElem?_toList]
  exact hv
theorem Aw2S.img (h:Aw2S b lk w W) (hl:lk = 0 ∨ lk = 1) {n:Nat} (hn:n = 66):Calls Tryz.prog 9 #[.agg (plAr b)] W fun e w' => AwImg (plA 1 lk) W n e w' :=
 (image20_any 1 24 8 40 (dA b) (plA 1 lk) (plA_bd 1 (by decide) lk (by omega)) (plA_small 1 (by decide) lk) W h.rows).mono fun e w' h => aw_img hn h
end
theorem run_nm20 (x:Int) (s:ByteArray) (W:World):(Instr.buildSlice 76 1 #[(0,.agg #[.int .i64 x,.string s])]).run Tryz.prog W = .ok (.slice (some ⟨W.heap.size,0,none⟩) 1 1) (W.alloc (.cells #[.int .i64 x,.string s] 80)):=by kernel_rfl
theorem run_fl20 (k s:Int) (a:Option Addr) (n c:Nat) (a':Option Addr) (n' c':Nat) (o:Bool) (l:Int) (W:World):(Instr.buildSlice 24 1 #[(0,.agg #[.int .u8 k,.int .i64 s,.slice a n c,.slice a' n' c',.bool o,.int .i64 l])]).run Tryz.prog W = .ok (.slice (some ⟨W.heap.size,0,none⟩) 1 1) (W.alloc (.cells #[.int .u8 k,.int .i64 s,.slice a n c,.slice a' n' c',.bool o,.int .i64 l] 78)):=by kernel_rfl
theorem aw_img0 {n:Nat} (hn:n = 66) (w:World):Calls Tryz.prog 9 #[.agg #[.int .i64 1,.int .i64 24,.int .i64 8,.int .i64 40,.slice none 0 0,.slice none 0 0,.bool false]] w fun e w' => AwImg (plA 0 0) w n e w' :=
 (image20_any 1 24 8 40 d0A (plA 0 0) (plA_bd 0 (by decide) 0 (by decide)) (plA_small 0 (by decide) 0) w (d0_rows 0 _ _)).mono fun e w' h => aw_img hn h
structure Aw3S (b:Nat) (lk:Int) (q0 q1 g2 n:Nat) (L0 L1:Nat → Nat → Int) (w W:World):Prop where
 s:Aw2S b lk w W
 l:RArr W q0 32 256 n (bkF L0)
 m:RArr W q1 32 256 n (bkF L1)
 o:RArr W g2 3 1 n (ownF o4A)
theorem Aw3S.below {b:Nat} {lk:Int} {q0 q1 g2 n:Nat} {L0 L1:Nat → Nat → Int} {w W W':World} (h:Aw3S b lk q0 q1 g2 n L0 L1 w W) (hb:Below W.heap.size W W'):Aw3S b lk q0 q1 g2 n L0 L1 w W' :=
 ⟨h.s.below hb,h.l.below hb,h.m.below hb,h.o.below hb⟩
theorem imv_of {W:World} {q n:Nat} {L:Nat → Nat → Int} (h:RArr W q 32 256 n (bkF L)):ImV W (.slice (some ⟨q,0,none⟩) n n) n L:=⟨_,_,rfl,fun _ => ⟨q,0,rfl,h.lt,h.seg⟩⟩
theorem aw_rule {n k:Nat} (hn:n ≤ 4294967296) {L:Nat → Nat → Int} (hL:∀ b,Byt (L b)) (hk:(Im.of L n).exam.1 = k) {q:Nat} {W:World} (hT:Tab W) (h:RArr W q 32 256 n (bkF L)):Calls Tryz.prog 22 #[.slice (some ⟨q,0,none⟩) n n] W fun e w' => e = .returned (.int .i64 (k:Int)) ∧ Below W.heap.size W w':=by
 have:=ckRule_any (.slice (some ⟨q,0,none⟩) n n) n L hL hn W hT (imv_of h)
 rw [hk] at this
 exact this
theorem aw_ruleN {W:World} (hT:Tab W):Calls Tryz.prog 22 #[.slice none 0 0] W fun e w' => e = .returned (.int .i64 1) ∧ Below W.heap.size W w':=by
 have:=ckRule_any (.slice none 0 0) 0 (fun _ _ => 0) (fun _ => zero_byt) (by decide) W hT ⟨none,0,rfl,fun h => absurd h (Nat.lt_irrefl _)⟩
 rw [exam_none] at this
 exact this
set_option maxRecDepth 100000 in
set_option maxHeartbeats 8000000 in
theorem awake20_any (w:World) (hT:Tab w):Calls Tryz.prog 13 #[] w fun e w' => e = .returned (.bool true) ∧ Below w.heap.size w w':=by
 obtain ⟨n,hn⟩:∃ n,n = 66:=⟨_,rfl⟩
 have HN:=Lib.hid hn
 have HT:=Lib.hid hT
 have hA0:=At.new w 23 (gcells 0 0 0 0)
 clear hn hT
 go_enter Tryz.func13,Tryz.ntmps13
 go_wp2_with fail
 refine (aw_img0 HN.out _).mono ?_
 rintro e w1 ⟨hb1,q0,rfl,hq0,hl0,hy0⟩
 have hg1:At w1 w.heap.size 23 (gcells 1 24 8 40):=(At.new w 23 (gcells 1 24 8 40)).below hb1 (by simp)
 have hbel1:Below w.heap.size w w1:=((Below.refl _ _).alloc (Nat.le_refl _) _).trans (hb1.mono (by simp))
 have hs1:=hg1.lt
 have hb2:=run_int2c 1 9
 have hb3:=run_nm20 0 ⟨#[97]⟩
 have hb4:=run_fl20 1 3000
 have HG1:=Lib.hid hg1
 have HL0:=Lib.hid hl0
 have HY0:=Lib.hid hy0
 have HBEL:=Lib.hid hbel1
 clear hb1 hl0 hy0 hbel1 hA0
 go_wp2_with (first | (refine wp_loadAtG rfl 23 (.tmp 1) rfl _ _ _ rfl hg1 Tryz.underlying23 rfl (by kernel_rfl) ?_))
 obtain ⟨b,hb⟩:∃ b,b = w1.heap.size:=⟨_,rfl⟩
 have ST0:Hid (Aw2S b 0 w ((((w1.alloc (.cells #[.int .i64 1,.int .i64 9] 3)).alloc (.cells #[.int .i64 0,.string nmA] 80)).alloc (.cells (flA b 0) 78)).alloc (.cells (plAr b) 27))):=by
  have e1:Below w1.heap.size w1 (w1.alloc (.cells #[.int .i64 1,.int .i64 9] 3)):=(Below.refl _ _).alloc (Nat.le_refl _) _
  have e4:Below w1.heap.size w1 ((((w1.alloc (.cells #[.int .i64 1,.int .i64 9] 3)).alloc (.cells #[.int .i64 0,.string nmA] 80)).alloc (.cells (flA b 0) 78)).alloc (.cells (plAr b) 27)) :=
   (((e1.alloc (by simp) _).alloc (by simp;omega) _).alloc (by simp;omega) _)
  refine ⟨HG1.out.below e4 hs1,?_,?_,?_,?_,HBEL.out.trans (e4.mono HBEL.out.size),by omega⟩
  ·have:=(((At.new w1 3 #[.int .i64 1,.int .i64 9]).alloc (.cells #[.int .i64 0,.string nmA] 80)).alloc (.cells (flA b 0) 78)).alloc (.cells (plAr b) 27)
   rwa [← hb] at this
  ·have:=((At.new (w1.alloc (.cells #[.int .i64 1,.int .i64 9] 3)) 80 #[.int .i64 0,.string nmA]).alloc (.cells (flA b 0) 78)).alloc (.cells (plAr b) 27)
   rwa [World.size_alloc,← hb] at this
  ·have:=(At.new ((w1.alloc (.cells #[.int .i64 1,.int .i64 9] 3)).alloc (.cells #[.int .i64 0,.string nmA] 80)) 78 (flA b 0)).alloc (.cells (plAr b) 27)
   rwa [World.size_alloc,World.size_alloc,← hb] at this
  ·have:=At.new (((w1.alloc (.cells #[.int .i64 1,.int .i64 9] 3)).alloc (.cells #[.int .i64 0,.string nmA] 80)).alloc (.cells (flA b 0) 78)) 27 (plAr b)
   rwa [World.size_alloc,World.size_alloc,World.size_alloc,← hb] at this
 have HL1:Hid (RArr ((((w1.alloc (.cells #[.int .i64 1,.int .i64 9] 3)).alloc (.cells #[.int .i64 0,.string nmA] 80)).alloc (.cells (flA b 0) 78)).alloc (.cells (plAr b) 27)) q0 32 256 n (bkF ((plA 0 0).img xA))):=(((HL0.out.alloc _).alloc _).alloc _).alloc _
 have hq0b:q0 < b:=by rw [hb];exact HL0.out.lt
 have HQ0:Hid (w.heap.size ≤ q0):=by show _ ≤ _;rw [World.size_alloc] at hq0;omega
 subst hb
 clear hb2 hb3 hb4 hg1 HG1 HL0 HBEL hs1
 refine (ST0.out.img (.inl rfl) HN.out).mono ?_
 obtain ⟨b,hb⟩:∃ b,b = w1.heap.size:=⟨_,rfl⟩
 rintro e w2 ⟨hb2,q1,rfl,hq1,hl1,hy1⟩
 have ST1:=Lib.hid (ST0.out.below hb2)
 have HL2:=Lib.hid (HL1.out.below hb2)
 have HM:=Lib.hid hl1
 have HY1:=Lib.hid hy1
 have HQ1:=Lib.hid hq1
 clear ST0 HL1 hb2 hl1 hy1 hq1
 rw [← hb] at ST1 hq0b ⊢
 clear hb
 have hn9:n ≤ 2048:=by have:=HN.out;omega
 have HT2:Hid (Tab w2):=HT.out.below ST1.out.bel (Nat.le_refl _)
 go_wp2_with fail
 refine (ckOwners_any (.slice (some ⟨q1,0,none⟩) n n) n ((plA 1 0).img xA) HY1.out (by omega) w2 HT2.out (imv_of HM.out)).mono ?_
 rintro e w3 ⟨hb3,hO⟩
 have hex1:(Im.of ((plA 1 0).img xA) n).exam = (0,o4A):=by rw [HN.out];exact awExam1
 have hex0:(Im.of ((plA 0 0).img xA) n).exam = (0,fun _ => 0) ∧ (Im.of ((plA 0 0).img xA) n).o = 0:=by rw [HN.out];exact awExam0 0
 rcases hO with ⟨h0,-⟩ | ⟨-,-,g2,rfl,hg2,ho⟩
 ·exact absurd (by rw [hex1]) h0
 rw [hex1] at ho
 obtain ⟨L0,hL0⟩:∃ L0,L0 = (plA 0 0).img xA:=⟨_,rfl⟩
 obtain ⟨L1,hL1⟩:∃ L1,L1 = (plA 1 0).img xA:=⟨_,rfl⟩
 rw [← hL0] at HL2 hex0 HY0
 rw [← hL1] at HM hex1 HY1
 have ST2:Hid (Aw3S b 0 q0 q1 g2 n L0 L1 w w3):=⟨ST1.out.below hb3,HL2.out.below hb3,HM.out.below hb3,ho⟩
 have HX0:=Lib.hid hex0
 have HX1:=Lib.hid hex1
 have HLL:=Lib.hid hL0
 clear ST1 HL2 HM hb3 ho hex0 hex1 hL0 hL1 HQ1 hg2 HT2 hq0
 have HTA:Hid (∀ W,Below w.heap.size w W → Tab W):=fun W h => HT.out.below h (Nat.le_refl _)
 have hmk:=fun W => run_mkrow (P:=Tryz.prog) 29 32 (bval fun _ => 0) 256 256 Tryz.underlying29 info_block3 .i64 .i64 n (by omega) (by omega) W
 have hn1:(n:Int) = 66:=by have:=HN.out;omega
 have HN1:=Lib.hid hn1
 clear hn1
 go_wp2_with fail
 refine (aw_ruleN (HTA.out _ ST2.out.s.bel)).mono ?_
 rintro e w4 ⟨rfl,hb4⟩
 have ST3:=Lib.hid (ST2.out.below hb4)
 clear ST2 hb4
 go_wp2_with fail
 have hex1:(Im.of L0 n).exam.1 = 0:=by rw [HX0.out.1]
 have hex2:(Im.of L1 n).exam.1 = 0:=by rw [HX1.out]
 have hez:(Im.of (fun _ _ => 0) n).exam.1 = 1:=by rw [HN.out];exact awExamZ
 have HE1:=Lib.hid hex1
 have HE2:=Lib.hid hex2
 have HEZ:=Lib.hid hez
 clear hex1 hex2 hez hmk
 have hbz:Below w4.heap.size w4 (w4.alloc (.cells (madeCells (bval fun _ => 0).cells (n * 256)) 32)):=(Below.refl _ _).alloc (Nat.le_refl _) _
 have ST4:=Lib.hid (ST3.out.below hbz)
 have HRZ:Hid (RArr (w4.alloc (.cells (madeCells (bval fun _ => 0).cells (n * 256)) 32)) w4.heap.size 32 256 n (bkF fun _ _ => 0)):=RArr.made (m:=256) w4 (Ks .u8 256 (fun _ => 0)).toArray (by simp [Ks]) (by omega) n 32
 clear ST3 hbz
 refine (aw_rule (L:=fun _ _ => 0) (k:=1) (by omega) (fun _ => zero_byt) HEZ.out (HTA.out _ ST4.out.s.bel) HRZ.out).mono ?_
 rintro e w5 ⟨rfl,hb5⟩
 have ST5:=Lib.hid (ST4.out.below hb5)
 clear ST4 hb5 HRZ
 go_wp2_with fail
 refine (aw_rule (k:=0) (by omega) HY0.out HE1.out (HTA.out _ ST5.out.s.bel) ST5.out.l).mono ?_
 rintro e w6 ⟨rfl,hb6⟩
 have ST6:=Lib.hid (ST5.out.below hb6)
 clear ST5 hb6
 go_wp2_with fail
 refine (ckQuiet_any (.slice (some ⟨q0,0,none⟩) n n) n L0 HY0.out (by omega) w6 (HTA.out _ ST6.out.s.bel) (imv_of ST6.out.l)).mono ?_
 rintro e w7 ⟨rfl,hb7⟩
 have ST7:=Lib.hid (ST6.out.below hb7)
 clear ST6 hb7
 have hqt:decide ((Im.of L0 n).exam.1 = 0 ∧ (Im.of L0 n).o = 0) = true:=decide_eq_true ⟨HE1.out,HX0.out.2⟩
 rw [hqt]
 clear hqt
 go_wp2_with fail
 refine (aw_rule (k:=0) (by omega) HY1.out HE2.out (HTA.out _ ST7.out.s.bel) ST7.out.m).mono ?_
 rintro e w8 ⟨rfl,hb8⟩
 have ST8:=Lib.hid (ST7.out.below hb8)
 clear ST7 hb8
 go_wp2_with fail
 have hcl:∀ t,cntB (fun b => o4A b == 2) t ≤ t:=fun t => cntB_le _ t
 have HCL:=Lib.hid hcl
 clear hcl
 go_loopw [6,7] (fun c u wr => ∃ t:Nat,t ≤ n ∧ u = .int .i64 (t:Int) ∧ c = .int .i64 ((cntB (fun b => o4A b == 2) t:Nat):Int) ∧ Aw3S b 0 q0 q1 g2 n L0 L1 w wr) (fun _ u _ => n - (intOf u).toNat)
 case atStart => exact ⟨0,Nat.zero_le _,rfl,rfl,ST8.out⟩
 case round =>
  clear ST8
  obtain ⟨t,ht,rfl,rfl,st⟩:=hrel
  have ST:=Lib.hid st
  clear st
  have hct:=HCL.out t
  have HCS:Hid (cntB (fun b => o4A b == 2) (t + 1) = cntB (fun b => o4A b == 2) t + if (o4A t == 2) = true then 1 else 0):=rfl
  obtain ⟨ct,hc⟩:∃ ct,ct = cntB (fun b => o4A b == 2) t:=⟨_,rfl⟩
  rw [← hc] at hct HCS ⊢
  have HCC:=Lib.hid hc
  clear hc
  by_cases hlt:t < n
  ·have hlt':(t:Int) < (n:Int):=by omega
   have co:wr.cell? ⟨g2,t,none⟩ = some (.int .i64 ((o4A t:Nat):Int)):=by
    have:=ST.out.o.seg t hlt 0 _ rfl
    rwa [Nat.zero_add,Nat.mul_one,Nat.add_zero] at this
   obtain ⟨ov,hov⟩:∃ ov,ov = o4A t:=⟨_,rfl⟩
   rw [← hov] at co HCS
   clear hov
   by_cases h2:ov = 2
   ·subst h2
    have HC2:Hid (cntB (fun b => o4A b == 2) (t + 1) = ct + 1):=HCS.out
    go_wp2_with fail
    go_roundw
    case rel => first | exact ⟨t + 1,by omega,by go_num,by rw [HC2.out];go_num,ST.out⟩ | ((repeat apply Exists.intro);refine ⟨?_,rfl⟩;exact ⟨t + 1,by omega,by go_num,by rw [HC2.out];go_num,ST.out⟩)
    case measure => simp [intOf];omega
   ·have q2:((ov:Int) == 2) = false:=by simp;omega
    have HC2:Hid (cntB (fun b => o4A b == 2) (t + 1) = ct):=by show _ = _;rw [HCS.out,if_neg (by simpa using h2)];rfl
    go_wp2_with fail
    go_roundw
    case rel => first | exact ⟨t + 1,by omega,by go_num,by rw [HC2.out],ST.out⟩ | ((repeat apply Exists.intro);refine ⟨?_,rfl⟩;exact ⟨t + 1,by omega,by go_num,by rw [HC2.out],ST.out⟩)
    case measure => simp [intOf];omega
  ·obtain rfl:t = n:=by omega
   have h3:ct = 3:=by rw [HCC.out,HN.out];exact awCount
   subst h3
   have hg:=ST.out.s.g
   go_wp2_with (first | (refine wp_loadAtG rfl 23 (.tmp 1) rfl _ _ _ rfl hg Tryz.underlying23 rfl (by kernel_rfl) ?_))
   have hst:Calls Tryz.prog 18 #[gval 1 24 8 40,.int .i64 0] wr fun e w' => e = .returned (.tuple #[.int .i64 42,.bool true]) ∧ Below wr.heap.size wr w':=geoStart_yes 1 24 8 40 0 mayA (by decide) wr
   refine hst.mono ?_
   rintro e w9 ⟨rfl,hb9⟩
   have ST9:=Lib.hid (ST.out.below hb9)
   have h42:(42:Int) < (t:Int):=by have:=HN.out;omega
   clear ST hb9 hg hst HCS HCC HCL
   go_wp2_with fail
   have hbit:bt (L0 42) 0 = true:=by rw [HLL.out,img0,LA_42,bt_bZ];rfl
   refine (bitClearA_any q0 t 42 0 (by omega) (by omega) (by decide) L0 (HY0.out 42) w9 ST9.out.l).mono ?_
   rintro e w10 hcl
   rcases hcl with ⟨h,-⟩ | ⟨-,rfl,hl10,ho10⟩
   ·rw [hbit] at h;cases h
   obtain ⟨cq,hcq,-⟩:=ST9.out.l.blk
   have hLC:updN L0 42 (bZ (clrB (bt (L0 42)) 0)) = LC:=by rw [HLL.out,img0];rfl
   rw [hLC] at hl10
   have ST10:Hid (Aw2S b 0 w w10):=by
    have h:=ST9.out.s
    exact ⟨h.g.only ho10 (At.unlike h.g hcq (by decide)),h.i.only ho10 (At.unlike h.i hcq (by decide)),h.n.only ho10 (At.unlike h.n hcq (by decide)),h.f.only ho10 (At.unlike h.f hcq (by decide)),h.p.only ho10 (At.unlike h.p hcq (by decide)),h.bel.trans (ho10.below HQ0.out),h.lb⟩
   have HLC:=Lib.hid hl10
   clear hbit hl10 ho10 hcq hLC ST9
   have c4:w10.cell? ⟨b + 3,4,none⟩ = some (.slice (some ⟨b + 2,0,none⟩) 1 1):=ST10.out.p.cell (i:=4) rfl
   have c5:w10.cell? ⟨b + 2,5,none⟩ = some (.int .i64 0):=ST10.out.f.cell (i:=5) rfl
   have f5:w10.frozen? ⟨b + 2,5,none⟩ = false:=soft_of_heap ST10.out.f 5
   have ho11:Only (b + 2) w10 (w10.setCell ⟨b + 2,5,none⟩ (.int .i64 1)):=Only.setCell w10 ⟨b + 2,5,none⟩ _
   have ST11:Hid (Aw2S b 1 w (w10.setCell ⟨b + 2,5,none⟩ (.int .i64 1))):=by
    have h:=ST10.out
    have hf:=h.f.setCell 5 (.int .i64 1)
    exact ⟨h.g.only ho11 (At.unlike h.g h.f (by decide)),h.i.only ho11 (At.unlike h.i h.f (by decide)),h.n.only ho11 (At.unlike h.n h.f (by decide)),hf,h.p.only ho11 (At.unlike h.p h.f (by decide)),h.bel.trans (ho11.below (by have:=h.lb;omega)),h.lb⟩
   have HLC2:Hid (RArr (w10.setCell ⟨b + 2,5,none⟩ (.int .i64 1)) q0 32 256 t (bkF LC)):=HLC.out.only ho11 (by omega)
   clear ST10 HLC ho11
   go_wp2_with fail
   have he3:(Im.of LC t).exam.1 = 3:=by rw [HN.out];exact awExam3
   have HE3:=Lib.hid he3
   clear he3 c4 c5 f5
   refine (aw_rule (k:=3) (by omega) LC_byt HE3.out (HTA.out _ ST11.out.bel) HLC2.out).mono ?_
   rintro e w12 ⟨rfl,hb12⟩
   have ST12:=Lib.hid (ST11.out.below hb12)
   clear ST11 hb12 HLC2
   have hp:=ST12.out.p
   go_wp2_with (first | (refine wp_loadAtG rfl 27 (.tmp 3) rfl _ _ _ rfl hp Tryz.underlying27 rfl (by kernel_rfl) ?_))
   refine (ST12.out.img (.inr rfl) HN.out).mono ?_
   rintro e w13 ⟨hb13,q3,rfl,hq3,hl3,hy3⟩
   have ST13:=Lib.hid (ST12.out.below hb13)
   have HL3:=Lib.hid hl3
   have HY3:=Lib.hid hy3
   clear ST12 hb13 hl3 hy3 hq3 hp
   go_wp2_with fail
   have he10:(Im.of ((plA 1 1).img xA) t).exam.1 = 10:=by rw [HN.out];exact awExam10
   refine (aw_rule (k:=10) (by omega) HY3.out he10 (HTA.out _ ST13.out.bel) HL3.out).mono ?_
   rintro e w14 ⟨rfl,hb14⟩
   have HF:Hid (Below w.heap.size w w14):=ST13.out.bel.trans (hb14.mono ST13.out.bel.size)
   clear ST13 hb14 he10
   go_wp2_with fail
   go_ret
   exact ⟨rfl,HF.out⟩
theorem OldR.wide {B B':Nat} {W:World} {a:Option Addr} {m n:Nat} {f:Nat → List Value} (h:OldR B W a m n f) (hB:B ≤ B'):OldR B' W a m n f:=⟨h.1,fun b off e hn => Nat.lt_of_lt_of_le (h.2 b off e hn) hB⟩
theorem PlnR.wide {B B':Nat} {d:PlAd} {P:PlanD} {W:World} (h:PlnR B d P W) (hB:B ≤ B'):PlnR B' d P W:=⟨h.f.wide hB,fun i hi => (h.b i hi).wide hB,fun i hi => (h.n i hi).wide hB,h.c.wide hB⟩
theorem At.plan {w:World} (G S I J:Int) (d:PlAd) (P:PlanD):At (w.alloc (.cells (plRow G S I J d P) 27)) w.heap.size 27 (plRow G S I J d P):=At.new _ _ _
def ImgW (w:World) (e:Ending) (w':World):Prop :=
 Below w.heap.size w w' ∧ ∃ (a:Option Addr) (n c:Nat) (L:Nat → Nat → Int),e = .returned (.slice a n c) ∧ ImV w' (.slice a n c) n L ∧ (∀ b,Byt (L b)) ∧ n ≤ 2048 ∧ (0 < n → ∃ q,a = some ⟨q,0,none⟩ ∧ c = n ∧ w.heap.size ≤ q ∧ RArr w' q 32 256 n (bkF L))
theorem img_w {G S I J:Int} {P:PlanD} {w:World} {e:Ending} {w':World} (h:ImgPost G S I J P w e w'):ImgW w e w':=by
 obtain ⟨hb,h⟩:=h
 refine ⟨hb,?_⟩
 rcases h with ⟨-,rfl⟩ | ⟨x,q,hx,-,-,-,-,-,rfl,hq,hr,hy⟩
 ·exact ⟨none,0,0,fun _ _ => 0,rfl,⟨none,0,rfl,fun h => absurd h (Nat.lt_irrefl _)⟩,fun _ => zero_byt,Nat.zero_le _,fun h => absurd h (Nat.lt_irrefl _)⟩
 ·exact ⟨some ⟨q,0,none⟩,x.n,x.n,P.img x,rfl,imv_of hr,hy,hx.n_le,fun _ => ⟨q,rfl,rfl,hq,hr⟩⟩
structure BiS (w:World) (p q:Nat) (cs:Array Value) (n:Nat) (L:Nat → Nat → Int) (W:World):Prop where
 im:RArr W q 32 256 n (bkF L)
 su:At W p 47 cs
 bel:Below w.heap.size w W
 lq:w.heap.size ≤ q
section
variable {w:World} {p q:Nat} {cs:Array Value} {n:Nat} {L L':Nat → Nat → Int} {W W':World}
theorem BiS.below (h:BiS w p q cs n L W) (hb:Below W.heap.size W W'):BiS w p q cs n L W':=⟨h.im.below hb,h.su.below hb h.su.lt,h.bel.trans (hb.mono h.bel.size),h.lq⟩
theorem BiS.only (h:BiS w p q cs n L W) (ho:Only q W W') (hr:RArr W' q 32 256 n (bkF L')):BiS w p q cs n L' W':=by
 obtain ⟨c,hc,_⟩:=h.im.blk
 exact ⟨hr,h.su.only ho (At.unlike h.su hc (by decide)),h.bel.trans (ho.below h.lq),h.lq⟩
theorem BiS.geo {G S I J O:Int} (h:BiS w p q (scells G S I J O) n L W):W.rangeAt p 0 (gcells G S I J).toList:=fun k v hk => by
 match k,hk with
 | 0,hk => injection hk with hk;subst hk;exact h.su.cell (i:=0) rfl
 | 1,hk => injection hk with hk;subst hk;exact h.su.cell (i:=1) rfl
 | 2,hk => injection hk with hk;subst hk;exact h.su.cell (i:=2) rfl
 | 3,hk => injection hk with hk;subst hk;exact h.su.cell (i:=3) rfl
 | k + 4,hk => cases hk
end
end Go.Proofs.YtphamecphmbipaaGreatDoor
