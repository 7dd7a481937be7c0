/- Texts of this claim, merged. -/
import Derived.Test.YtphamecphmbipaaGreatDoorK40
set_option maxRecDepth 100000
set_option maxHeartbeats 16000000

namespace Go.Proofs.YtphamecphmbipaaGreatDoor
open Go.RowKit
set_option linter.unusedVariables false
abbrev X0 (im:Value):Array Value:=xcells im 0 0 0 0 0 (.slice none 0 0) (.slice none 0 0) (.slice none 0 0) (.slice none 0 0) (.slice none 0 0) (.slice none 0 0)
def HeadPost (w:World) (p b off n cap:Nat) (L:Nat → Nat → Int) (e:Ending) (w':World):Prop :=
 w.grownBy w' (some p) ∧ (((Im.of L n).ck1 = false ∧ e = .panicked (brk 1)) ∨ ((Im.of L n).ck1 = true ∧ (Im.of L n).ck2 = false ∧ e = .panicked (brk 2)) ∨
  ((Im.of L n).ck1 = true ∧ (Im.of L n).ck2 = true ∧ e = .returned (.tuple #[]) ∧ ∃ db dc,w.heap.size ≤ db ∧ db < w'.heap.size ∧
   At w' p 105 (XC b off cap (Im.of L n) (.slice (some ⟨db,0,none⟩) (Im.of L n).g dc) (.slice none 0 0) (.slice none 0 0) (.slice none 0 0) (.slice none 0 0) (.slice none 0 0)) ∧
   RSeg w' db 0 3 (Im.of L n).g (df (rB (L 1)) (rI (L 1)) (rD (L 1)))))
structure HdS (w:World) (p b off n:Nat) (L:Nat → Nat → Int) (cs:Array Value) (G:Nat) (sc:Array Value) (W:World):Prop where
 a:At W p 105 cs
 i:RSeg W b off 256 n (bkF L)
 s:At W G 47 sc
 bl:b < W.heap.size
 gr:w.grownBy W (some p)
 lo:w.heap.size ≤ G
 t:Tab W
 pt:p ≠ 0
theorem HdS.below {w:World} {p b off n:Nat} {L:Nat → Nat → Int} {cs:Array Value} {G:Nat} {sc:Array Value} {W W':World} (h:HdS w p b off n L cs G sc W) (hb:Below W.heap.size W W'):HdS w p b off n L cs G sc W' :=
 ⟨h.a.below hb h.a.lt,RSeg.below h.i hb h.bl,h.s.below hb h.s.lt,Nat.lt_of_lt_of_le h.bl hb.size,grown_trans h.gr (grown_below hb),h.lo,h.t.below hb (Nat.le_refl _),h.pt⟩
def csF (im:Value) (g s i j o:Int) (a c:Bool):Array Value :=
 let z:=Value.slice none 0 0
 if c then #[im,.int .i64 g,.int .i64 s,.int .i64 i,.int .i64 j,.int .u32 o,.int .i64 g,.int .i64 s,.int .i64 i,.int .i64 j,z,z,z,z,z,z]
 else if a then #[im,.int .i64 g,.int .i64 s,.int .i64 i,.int .i64 j,.int .u32 o,.int .i64 0,.int .i64 0,.int .i64 0,.int .i64 0,z,z,z,z,z,z]
 else X0 im
theorem HdS.put {w:World} {p b off n:Nat} {L:Nat → Nat → Int} {cs cs':Array Value} {G:Nat} {sc:Array Value} {W:World} (h:HdS w p b off n L cs G sc W) (hbp:b ≠ p) (hpw:p < w.heap.size) (k:Nat) (vs:List Value) (he:setA cs k vs = cs'):HdS w p b off n L cs' G sc (W.setCells p k vs):=by
 have ho:Only p W (W.setCells p k vs):=only_setCells p vs k W
 have:=h.lo
 exact ⟨he ▸ h.a.setL vs k,RSeg.only h.i ho hbp,h.s.only ho (by omega),by rw [ho.size];exact h.bl,grown_trans h.gr (grown_only ho),h.lo,h.t.only ho h.pt,h.pt⟩
def V3 (p:Nat) (i:Nat) (v:Value):Prop:=if i = 8 then v = .pointer (some ⟨p,0,none⟩) else if i = 9 then v = .pointer (some ⟨p,6,none⟩) else True
def RdV (g s i j:Int) (z:Nat → Int) (B:Nat) (v:Value) (W:World):Prop :=
 (rdOk g s i j z = true ∧ RMine W B 67 3 v g.toNat (df (rB z) (rI z) (rD z))) ∨ (rdOk g s i j z = false ∧ v = .slice none 0 0)
theorem RdV.below {g s i j:Int} {z:Nat → Int} {B:Nat} {v:Value} {W W':World} (h:RdV g s i j z B v W) (hb:Below W.heap.size W W'):RdV g s i j z B v W':=by
 rcases h with ⟨h1,h2⟩ | h
 ·exact .inl ⟨h1,RMine.below h2 hb⟩
 ·exact .inr h
theorem RdV.form {g s i j:Int} {z:Nat → Int} {B:Nat} {v:Value} {W:World} (h:RdV g s i j z B v W):v.oneCell' = true:=by
 rcases h with ⟨_,h2⟩ | ⟨_,rfl⟩
 ·obtain ⟨a,c,rfl⟩:=RMine.form h2;rfl
 ·rfl
def rdEr (g s i j:Int) (z:Nat → Int):Int:=if rdOk g s i j z then 0 else if mayG g s i j then 60 else 50
theorem rdV_of {w:World} {g s i j:Int} {z:Nat → Int} {v:Value} {e:Int} {W:World} {B:Nat} (h:RdPost w g s i j z v e W) (hB:B ≤ w.heap.size):RdV g s i j z B v W ∧ e = rdEr g s i j z:=by
 rcases h with ⟨h1,h2,h3⟩ | ⟨h1,h2,h3⟩
 ·exact ⟨.inl ⟨h1,RMine.low h3 hB⟩,by rw [h2,rdEr,if_pos h1]⟩
 ·exact ⟨.inr ⟨h1,h3⟩,by rw [h2];unfold rdEr;rw [h1];rfl⟩
theorem rdEr_zero (g s i j:Int) (z:Nat → Int):(rdEr g s i j z == 0) = rdOk g s i j z:=by
 unfold rdEr
 cases rdOk g s i j z with
 | true => rfl
 | false => rw [if_neg (by decide)];split <;> rfl
def V4 (g s i j:Int) (z:Nat → Int) (B p:Nat) (k:Nat) (v:Value) (W:World):Prop :=
 if k = 11 ∨ k = 12 then ∃ v',v = .tuple #[v',.int .i64 (rdEr g s i j z)] ∧ RdV g s i j z B v' W
 else if k = 13 then RdV g s i j z B v W
 else if k = 14 then v = .int .i64 (rdEr g s i j z)
 else if k = 15 then v = .pointer (some ⟨p,0,none⟩)
 else if k = 16 then v = .pointer (some ⟨p,10,none⟩) else if k = 18 then v = .int .i64 (rdEr g s i j z) else True
theorem V4.below {g s i j:Int} {z:Nat → Int} {B p k:Nat} {v:Value} {W W':World} (h:V4 g s i j z B p k v W) (hb:Below W.heap.size W W'):V4 g s i j z B p k v W':=by
 unfold V4 at h ⊢
 by_cases h1:k = 11 ∨ k = 12
 ·rw [if_pos h1] at h ⊢
  obtain ⟨v',e,h⟩:=h
  exact ⟨v',e,h.below hb⟩
 rw [if_neg h1] at h ⊢
 by_cases h2:k = 13
 ·rw [if_pos h2] at h ⊢;exact h.below hb
 rw [if_neg h2] at h ⊢;exact h
theorem V4.map {g s i j:Int} {z:Nat → Int} {B p k:Nat} {v:Value} {W W':World} (h:V4 g s i j z B p k v W) (hf:∀ v,RdV g s i j z B v W → RdV g s i j z B v W'):V4 g s i j z B p k v W':=by
 unfold V4 at h ⊢
 by_cases h1:k = 11 ∨ k = 12
 ·rw [if_pos h1] at h ⊢
  obtain ⟨v',e,h⟩:=h
  exact ⟨v',e,hf _ h⟩
 rw [if_neg h1] at h ⊢
 by_cases h2:k = 13
 ·rw [if_pos h2] at h ⊢;exact hf _ h
 rw [if_neg h2] at h ⊢;exact h
theorem RdV.only {g s i j:Int} {z:Nat → Int} {B:Nat} {v:Value} {W W':World} {p:Nat} (h:RdV g s i j z B v W) (ho:Only p W W') (hp:p < B):RdV g s i j z B v W':=by
 rcases h with ⟨h1,h2⟩ | h
 ·exact .inl ⟨h1,own_only h2 ho (fun e => by have:=(World.ownsRow.lt h2 p e).1;omega)⟩
 ·exact .inr h
theorem HdS.geo {w:World} {p b off n:Nat} {L:Nat → Nat → Int} {cs:Array Value} {G:Nat} {sc:Array Value} {W:World} {g s i j:Int} (h:HdS w p b off n L cs G sc W) (h0:cs[6]? = some (.int .i64 g)) (h1:cs[7]? = some (.int .i64 s)) (h2:cs[8]? = some (.int .i64 i)) (h3:cs[9]? = some (.int .i64 j)):W.rangeAt p 6 (gcells g s i j).toList:=fun k v hk => by
 match k,hk with
 | 0,hk => injection hk with hk;subst hk;exact h.a.cell h0
 | 1,hk => injection hk with hk;subst hk;exact h.a.cell h1
 | 2,hk => injection hk with hk;subst hk;exact h.a.cell h2
 | 3,hk => injection hk with hk;subst hk;exact h.a.cell h3
 | k + 4,hk => cases hk
structure S4 (w:World) (p b off n:Nat) (L:Nat → Nat → Int) (im:Value) (g s i j o:Int) (G:Nat) (y:Bool) (W:World):Prop where
 no:y = false → HdS w p b off n L (csF im g s i j o true true) G (scells g s i j o) W
 ye:y = true → ∃ v,RdV g s i j (L 1) w.heap.size v W ∧ HdS w p b off n L ((csF im g s i j o true true).setIfInBounds 10 v) G (scells g s i j o) W
theorem S4.below {w:World} {p b off n:Nat} {L:Nat → Nat → Int} {im:Value} {g s i j o:Int} {G:Nat} {y:Bool} {W W':World} (h:S4 w p b off n L im g s i j o G y W) (hb:Below W.heap.size W W'):S4 w p b off n L im g s i j o G y W' :=
 ⟨fun e => (h.no e).below hb,fun e => let ⟨v,h1,h2⟩:=h.ye e;⟨v,h1.below hb,h2.below hb⟩⟩
theorem S4.c {w:World} {p b off n:Nat} {L:Nat → Nat → Int} {im:Value} {g s i j o:Int} {G:Nat} {y:Bool} {W:World} (h:S4 w p b off n L im g s i j o G y W):W.cell? ⟨p,0,none⟩ = some im ∧ W.rangeAt p 6 (gcells g s i j).toList ∧ RSeg W b off 256 n (bkF L):=by
 cases y with
 | false => have h:=h.no rfl;exact ⟨h.a.cell (i:=0) rfl,h.geo rfl rfl rfl rfl,h.i⟩
 | true =>
  obtain ⟨v,_,h⟩:=h.ye rfl
  exact ⟨h.a.cell (i:=0) rfl,h.geo rfl rfl rfl rfl,h.i⟩
theorem info_dsl:(Tryz.prog.info? 51).map (·.size) = some 1:=by kernel_rfl
theorem readE_may {z:Nat → Int} (h:readE z = 0):mayG (hd z 4) (hd z 5) (hd z 6) (hd z 7) = true:=by
 unfold readE at h
 split at h
 ·split at h
  ·assumption
  ·cases h
 ·cases h
theorem ckHead_any (p b off n cap:Nat) (L:Nat → Nat → Int) (hL:∀ i,Byt (L i)) (hn:0 < n) (hn9:n ≤ 4294967296) (w:World) (hT:Tab w) (hbw:b < w.heap.size) (hbp:b ≠ p) (hA:At w p 105 (X0 (.slice (some ⟨b,off,none⟩) n cap))) (hi:RSeg w b off 256 n (bkF L)) :
  Calls Tryz.prog 76 #[.pointer (some ⟨p,0,none⟩)] w fun e w' => HeadPost w p b off n cap L e w':=by
 have c0:w.cell? ⟨p,0,none⟩ = some (.slice (some ⟨b,off,none⟩) n cap):=hA.cell (i:=0) rfl
 have hn0:decide ((n:Int) > 0) = true:=decide_eq_true (by omega)
 have hn1:(0:Int) < (n:Int):=by omega
 have hgt:(0 < n) = True:=by simp [hn]
 have hrg:w.rangeAt b off (bkF L 0):=by have:=RSeg.range hi 0 hn;rwa [Nat.zero_mul,Nat.add_zero] at this
 have HA:=Lib.hid hA
 have HI:=Lib.hid hi
 have HT:=Lib.hid hT
 have HL:=Lib.hid hL
 have HPW:Hid (p < w.heap.size):=hA.lt
 have HBP:=Lib.hid hbp
 have hzs:=zero_super
 clear hA hi hT hL
 go_enter Tryz.func76,Tryz.ntmps76
 go_wp2_with fail
 refine (must_yes 1 _).mono ?_
 rintro e w1 ⟨rfl,rfl⟩
 go_wp2_with (first | (refine wp_loadMid rfl 32 (.tmp 16) rfl b off (bkF L 0) _ rfl hrg Tryz.underlying32 rfl (by rw [bkF_len];exact info_block) ?_))
 clear hrg c0 hn0 hgt
 have HE0:Hid ((Im.of L n).ck1 = (readE (L 0) == 0 && ((n:Int) == nBl (hd (L 0) 4) (hd (L 0) 5) (hd (L 0) 6) (hd (L 0) 7)))):=by
  show (decide (0 < n) && _) = _
  rw [decide_eq_true hn,Bool.true_and];rfl
 obtain ⟨VG,VS,VI,VJ,VO,hV,hVE⟩:∃ G S I J O,readV (L 0) = sval G S I J O ∧ (readE (L 0) = 0 → G = hd (L 0) 4 ∧ S = hd (L 0) 5 ∧ I = hd (L 0) 6 ∧ J = hd (L 0) 7 ∧ O = g32 (L 0) 16):=by
  unfold readV
  split
  ·exact ⟨_,_,_,_,_,rfl,fun _ => ⟨rfl,rfl,rfl,rfl,rfl⟩⟩
  ·rename_i h;exact ⟨_,_,_,_,_,rfl,fun h2 => absurd h2 h⟩
 have hRead:=superRead_any (L 0) (HL.out 0) w HT.out
 rw [hV] at hRead
 refine hRead.mono ?_
 rintro e w2 ⟨rfl,hb2⟩
 have HVE:=Lib.hid hVE
 obtain ⟨E,hE⟩:∃ E,E = readE (L 0):=⟨_,rfl⟩
 have HE:=Lib.hid hE
 rw [← hE]
 clear hV hVE hRead hE
 have hr:=At.new w2 47 (scells 0 0 0 0 0)
 have hbA:Below w.heap.size w (w2.alloc (.cells (scells 0 0 0 0 0) 47)):=hb2.trans ((Below.refl _ _).alloc hb2.size _)
 have hsz2:=hb2.size
 go_wp2_with (first | (refine wp_storeAt rfl 47 (.tmp 2) (.tmp 19) rfl w2.heap.size (scells VG VS VI VJ VO) (scells 0 0 0 0 0) rfl rfl hr info_super rfl (all_s _ _ _ _ _) ?_))
 intro w3 hS3 ho3
 obtain ⟨G,hG⟩:∃ G,G = w2.heap.size:=⟨_,rfl⟩
 rw [← hG] at hS3 ho3 hsz2 ⊢
 have hb3:Below w.heap.size w w3:=hbA.trans ((ho3.below (Nat.le_refl _)).mono hsz2)
 have ST:Hid (HdS w p b off n L (X0 (.slice (some ⟨b,off,none⟩) n cap)) G (scells VG VS VI VJ VO) w3):=⟨HA.out.below hb3 HA.out.lt,RSeg.below HI.out hb3 hbw,hS3,Nat.lt_of_lt_of_le hbw hb3.size,grown_below hb3,hsz2,HT.out.below hb3 (Nat.le_refl _),fun e => by
  have h1:=HT.out 0 (by decide)
  have h2:=HA.out.cell (i:=0) (v:=.slice (some ⟨b,off,none⟩) n cap) rfl
  rw [e] at h2
  have h3:=h1.symm.trans h2
  injection h3 with h3;cases h3⟩
 have HT3:=Lib.hid (HT.out.below hb3 (Nat.le_refl _))
 clear hr hbA hb2 hS3 ho3 hb3 hG hsz2 HT HA HI hzs
 by_cases hE0:E = 0
 rotate_left
 ·have q0:(E == 0) = false:=by simp [hE0]
  have HNO:Hid ((Im.of L n).ck1 = false):=by show _ = _;rw [HE0.out,← HE.out,q0];rfl
  clear hE0
  go_wp2_with fail
  refine wp_region_bar2 (HdS w p b off n L (X0 (.slice (some ⟨b,off,none⟩) n cap)) G (scells VG VS VI VJ VO)) 13 (by kernel_rfl) (by kernel_rfl) (by kernel_rfl) (by kernel_rfl) (by kernel_rfl) (by decide) (ST.out.below (Below.refl _ _).drew) ?_
  clear ST
  simp only [List.take_succ_cons,List.take_zero,List.drop_succ_cons,List.drop_zero]
  intro hne
  repeat (first | go_big_quiet_skip | (go_big_quiet_want;go_big_quiet_op;go_big_quiet_on))
  refine wpQuiet_nil ?_
  intro w4 h4
  have ST4:=Lib.hid h4.out
  clear h4 hne
  go_wp2_with fail
  refine (must_no 1 _).mono ?_
  rintro e w5 ⟨rfl,rfl⟩
  exact ⟨rfl,ST4.out.gr,.inl ⟨HNO.out,rfl⟩⟩
 obtain ⟨rfl,rfl,rfl,rfl,rfl⟩:=HVE.out (HE.out.symm.trans hE0)
 subst hE0
 have HCK1:Hid ((Im.of L n).ck1 = ((n:Int) == nBl (hd (L 0) 4) (hd (L 0) 5) (hd (L 0) 6) (hd (L 0) 7))):=by show _ = _;rw [HE0.out,← HE.out];rfl
 obtain ⟨g,hg⟩:∃ g,g = hd (L 0) 4:=⟨_,rfl⟩
 obtain ⟨s,hs⟩:∃ g,g = hd (L 0) 5:=⟨_,rfl⟩
 obtain ⟨i,hi⟩:∃ g,g = hd (L 0) 6:=⟨_,rfl⟩
 obtain ⟨j,hj⟩:∃ g,g = hd (L 0) 7:=⟨_,rfl⟩
 obtain ⟨o,ho⟩:∃ g,g = g32 (L 0) 16:=⟨_,rfl⟩
 rw [← hg,← hs,← hi,← hj] at HCK1
 rw [← hg,← hs,← hi,← hj,← ho] at ST
 have HNM:=Lib.hid (And.intro hg (And.intro hs (And.intro hi (And.intro hj ho))))
 clear hg hs hi hj ho
 obtain ⟨N,hN⟩:∃ N,N = nBl g s i j:=⟨_,rfl⟩
 have HN:=Lib.hid hN
 have HBL:Hid (∀ W,Calls Tryz.prog 126 #[gval g s i j] W fun e w' => e = .returned (.int .i64 N) ∧ Below W.heap.size W w'):=fun W => by rw [hN];exact geoBlocks_any g s i j W
 rw [← hN] at HCK1
 clear hN
 go_wp2_with fail
 refine wp_region_bar2 (HdS w p b off n L (X0 (.slice (some ⟨b,off,none⟩) n cap)) G (scells g s i j o)) 13 (by kernel_rfl) (by kernel_rfl) (by kernel_rfl) (by kernel_rfl) (by kernel_rfl) (by decide) (ST.out.below (Below.refl _ _).drew) ?_
 clear ST
 simp only [List.take_succ_cons,List.take_zero,List.drop_succ_cons,List.drop_zero]
 intro hne
 have hc0:∀ z:InW (HdS w p b off n L (X0 (.slice (some ⟨b,off,none⟩) n cap)) G (scells g s i j o)),z.W.cell? ⟨p,0,none⟩ = some (.slice (some ⟨b,off,none⟩) n cap):=fun z => z.h.a.cell (i:=0) rfl
 repeat (first | go_big_quiet_skip | (go_big_quiet_want;go_big_quiet_op;go_big_quiet_on))
 refine q_load rfl 23 (.tmp 29) rfl G 0 rfl (gcells g s i j).toList _ (fun W h => At.geo h.s) Tryz.underlying23 rfl (by kernel_rfl) ?_
 refine wpQuiet_frame (by simp only [Act.put,List.setIfInBounds_toArray,List.set_cons_succ,List.set_cons_zero];exact rfl) ?_
 go_big_quiet_want
 go_big_quiet_op
 refine ⟨_,fun s => q_call s (fun W hW => (HBL.out W).mono fun e w' h => ⟨h.1,hW.below h.2⟩),?_⟩
 go_big_quiet_on
 repeat (first | go_big_quiet_skip | (go_big_quiet_want;go_big_quiet_op;go_big_quiet_on))
 refine wpQuiet_nil ?_
 intro w4 h4
 have ST:=Lib.hid h4.out
 clear h4 hne hc0
 go_wp2_with fail
 refine (must_any 1 ((n:Int) == N) _).mono ?_
 rintro e w5 ⟨hS,rfl⟩
 rcases hS with ⟨hct,rfl⟩ | ⟨hct,rfl⟩
 rotate_left
 ·exact ⟨rfl,ST.out.gr,.inl ⟨HCK1.out.trans hct,rfl⟩⟩
 have HY1:=Lib.hid (HCK1.out.trans hct)
 have HnN:Hid ((n:Int) = N):=by show _ = _;simpa using hct
 clear hct
 go_wp2_with fail
 have hpw:p < w.heap.size:=HPW.out
 apply Vp.wp_region_pre 7 (fun l i v W => V3 p i v) (fun l W => HdS w p b off n L (csF (.slice (some ⟨b,off,none⟩) n cap) g s i j o (l 7) (l 10)) G (scells g s i j o) W ∧ (l 10 = true → l 7 = true)) (fun W => At W G 47 (scells g s i j o))
 case hm => kernel_rfl
 case hd => kernel_rfl
 case hpre => kernel_rfl
 case hB => kernel_rfl
 case hVl => exact fun l l' he i v W h => h
 case hS => exact fun l l' W he h => by rw [← he 7 (by decide) (by decide),← he 10 (by decide) (by decide)];exact h
 case hSC => exact fun l W h => h.1.s
 case hVb => exact fun l i v W W' h hb => h
 case hSb => exact fun l W W' h hb _ => ⟨h.1.below hb,h.2⟩
 case h0 => exact ⟨ST.out.below ⟨rfl,rfl,rfl,Nat.le_refl _,fun _ _ => rfl⟩,fun e => by cases e⟩
 case hwalk =>
  simp only [List.take_succ_cons,List.take_zero]
  intro R hR hne
  repeat (first | go_big_quiet_skip | (go_big_quiet_want;go_big_quiet_op;go_big_quiet_on))
  refine q_load rfl 47 (.tmp 2) rfl G 0 rfl (scells g s i j o).toList _ (fun W h => h.1.range) Tryz.underlying47 rfl (by kernel_rfl) ?_
  refine wpQuiet_frame (by simp only [Act.put,List.setIfInBounds_toArray,List.set_cons_succ,List.set_cons_zero];exact rfl) ?_
  repeat (first | go_big_quiet_skip | (go_big_quiet_want;go_big_quiet_op;go_big_quiet_on))
  refine q_load rfl 23 (.tmp 38) rfl G 0 rfl (gcells g s i j).toList _ (fun W h => At.geo h.1) Tryz.underlying23 rfl (by kernel_rfl) ?_
  refine wpQuiet_frame (by simp only [Act.put,List.setIfInBounds_toArray,List.set_cons_succ,List.set_cons_zero];exact rfl) ?_
  repeat (first | go_big_quiet_skip | (go_big_quiet_want;go_big_quiet_op;go_big_quiet_on))
  exact wpQuiet_nil rfl
 case hst =>
  simp only [List.drop_succ_cons,List.drop_zero]
  refine ⟨?_,?_,?_,?_,trivial⟩
  ·intro l a W hl hu h
   have e1:a.tmps.getD 41 undef = .pointer (some ⟨p,1,none⟩):=(h.vals 6 41 (op_up hu 6 (by kernel_rfl)) rfl).pre (by decide) rfl
   have e2:a.tmps.getD 37 undef = .agg (scells g s i j o):=(h.vals 2 37 (op_up hu 2 (by kernel_rfl)) rfl).pre (by decide) rfl
   have hs:=h.st.1
   have hl10:l 10 = false:=by
    cases h10:l 10 with
    | false => rfl
    | true => have:=h.st.2 h10;rw [hl] at this;cases this
   rw [hl,hl10] at hs
   refine Vm.step h (by kernel_rfl) rfl rfl rfl hl (Vl.op_stmid 47 (.tmp 41) (.tmp 37) rfl p 1 (scells g s i j o) e1 e2 (hs.a.there 1 5 (show (1:Nat) + 5 ≤ 16 by decide)) info_super (all_s _ _ _ _ _) ?_)
   refine ⟨_,rfl,fun i d _ hd hv' => hv'.up fun hi hv' => hv',Vp.W.mk (by decide) trivial,?_,fun _ => rfl⟩
   show HdS w p b off n L (csF _ g s i j o (true || _) (l 10)) G _ _
   rw [hl10]
   exact hs.put HBP.out HPW.out 1 _ rfl
  ·intro l a W hl hu h
   have e1:a.tmps.getD 36 undef = .pointer (some ⟨p,0,none⟩):=(h.vals 1 36 (op_up hu 1 (by kernel_rfl)) rfl).pre (by decide) rfl
   exact Vm.stepQ h (by kernel_rfl) rfl rfl rfl hl _ (Vl.r_nilc (.tmp 36) rfl ⟨p,0,none⟩ e1) (fun _ _ hv => hv.up fun _ hv => hv) (Vp.W.mk (by decide) rfl) (fun s => s)
  ·intro l a W hl hu h
   have e1:a.tmps.getD 42 undef = .pointer (some ⟨p,0,none⟩):=(h.vals 8 42 (op_up hu 8 (by kernel_rfl)) rfl).post (by decide)
   exact Vm.stepQ h (by kernel_rfl) rfl rfl rfl hl _ (Vl.r_field 105 (.tmp 42) 2 rfl e1 (by kernel_rfl)) (fun _ _ hv => hv.up fun _ hv => hv) (Vp.W.mk (by decide) rfl) (fun s => s)
  ·intro l a W hl hu h
   have e1:a.tmps.getD 43 undef = .pointer (some ⟨p,6,none⟩):=(h.vals 9 43 (op_up hu 9 (by kernel_rfl)) rfl).post (by decide)
   have e2:a.tmps.getD 39 undef = .agg (gcells g s i j):=(h.vals 4 39 (op_up hu 4 (by kernel_rfl)) rfl).pre (by decide) rfl
   have h7:l 7 = true:=op_up hu 7 (by kernel_rfl)
   have hs:=h.st.1
   rw [h7,hl] at hs
   refine Vm.step h (by kernel_rfl) rfl rfl rfl hl (Vl.op_stmid 23 (.tmp 43) (.tmp 39) rfl p 6 (gcells g s i j) e1 e2 (hs.a.there 6 4 (show (6:Nat) + 4 ≤ 16 by decide)) (by kernel_rfl) (by kernel_rfl) ?_)
   refine ⟨_,rfl,fun i d _ hd hv' => hv'.up fun hi hv' => hv',Vp.W.mk (by decide) trivial,?_,fun _ => h7⟩
   exact hs.put HBP.out HPW.out 6 _ rfl
 intro a' w8 h hall
 have hall2:=hall [42,43] (by kernel_rfl)
 clear hall
 have e42:a'.tmps.getD 42 undef = .pointer (some ⟨p,0,none⟩):=(h.vals 8 42 rfl rfl).post (by decide)
 have e43:a'.tmps.getD 43 undef = .pointer (some ⟨p,6,none⟩):=(h.vals 9 43 rfl rfl).post (by decide)
 have ST8:Hid (HdS w p b off n L (csF (.slice (some ⟨b,off,none⟩) n cap) g s i j o true true) G (scells g s i j o) w8):=h.st.1
 rw [List.foldl_cons,List.foldl_cons,List.foldl_nil,e42,e43] at hall2
 simp only [Act.put,List.setIfInBounds_toArray,List.set_cons_succ,List.set_cons_zero] at hall2
 subst hall2
 clear h e42 e43 ST
 go_wp2_with fail
 have hmay:mayG g s i j = true:=by
  obtain ⟨h1,h2,h3,h4,_⟩:=HNM.out
  rw [h1,h2,h3,h4];exact readE_may HE.out.symm
 have hn2:1 < n:=by
  have h1:=HnN.out
  rw [HN.out,nBl,if_pos hmay] at h1
  unfold mayG at hmay
  simp only [decide_eq_true_eq] at hmay
  have h2:0 ≤ g * s:=Int.mul_nonneg (by omega) (by omega)
  omega
 have hn2':(1:Int) < (n:Int):=by omega
 have HMAY:=Lib.hid hmay
 clear hmay
 apply Vp.wp_region_pre 11 (fun l k v W => V4 g s i j (L 1) w.heap.size p k v W) (fun l W => S4 w p b off n L (.slice (some ⟨b,off,none⟩) n cap) g s i j o G (l 17) W) (fun W => W.cell? ⟨p,0,none⟩ = some (.slice (some ⟨b,off,none⟩) n cap) ∧ W.rangeAt p 6 (gcells g s i j).toList ∧ RSeg W b off 256 n (bkF L))
 case hm => kernel_rfl
 case hd => kernel_rfl
 case hpre => kernel_rfl
 case hB => kernel_rfl
 case hVl => exact fun l l' he i v W h => h
 case hS => exact fun l l' W he h => by rw [← he 17 (by decide) (by decide)];exact h
 case hSC => exact fun l W h => h.c
 case hVb => exact fun l i v W W' h hb => h.below hb
 case hSb => exact fun l W W' h hb _ => h.below hb
 case h0 => exact ⟨fun _ => ST8.out.below ⟨rfl,rfl,rfl,Nat.le_refl _,fun _ _ => rfl⟩,fun e => by cases e⟩
 case hwalk =>
  simp only [List.take_succ_cons,List.take_zero]
  intro R hR hne
  have hc0:∀ z:InW (fun W => (W.cell? ⟨p,0,none⟩ = some (.slice (some ⟨b,off,none⟩) n cap) ∧ W.rangeAt p 6 (gcells g s i j).toList ∧ RSeg W b off 256 n (bkF L)) ∧ R W),z.W.cell? ⟨p,0,none⟩ = some (.slice (some ⟨b,off,none⟩) n cap):=fun z => z.h.1.1
  repeat (first | go_big_quiet_skip | (go_big_quiet_want;go_big_quiet_op;go_big_quiet_on))
  refine q_load rfl 23 (.tmp 48) rfl p 6 rfl (gcells g s i j).toList _ (fun W h => h.1.2.1) Tryz.underlying23 rfl (by kernel_rfl) ?_
  refine wpQuiet_frame (by simp only [Act.put,List.setIfInBounds_toArray,List.set_cons_succ,List.set_cons_zero];exact rfl) ?_
  repeat (first | go_big_quiet_skip | (go_big_quiet_want;go_big_quiet_op;go_big_quiet_on))
  refine q_load rfl 32 (.tmp 54) rfl b (off + 1 * 256) rfl (bkF L 1) _ (fun W h => RSeg.range h.1.2.2 1 hn2) Tryz.underlying32 rfl (by rw [bkF_len];exact info_block) ?_
  refine wpQuiet_frame (by simp only [Act.put,List.setIfInBounds_toArray,List.set_cons_succ,List.set_cons_zero];exact rfl) ?_
  exact wpQuiet_nil rfl
 case hst =>
  simp only [List.drop_succ_cons,List.drop_zero]
  refine ⟨?_,?_,?_,?_,?_,?_,?_,?_,trivial⟩
  ·intro l a W hl hu h
   have e1:a.tmps.getD 49 undef = gval g s i j:=(h.vals 4 49 (op_up hu 4 (by kernel_rfl)) rfl).pre (by decide) rfl
   have e2:a.tmps.getD 55 undef = bval (L 1):=(h.vals 10 55 (op_up hu 10 (by kernel_rfl)) rfl).pre (by decide) rfl
   have hst:Tab W ∧ w.heap.size ≤ W.heap.size:=by
    cases h17:l 17 with
    | false => have:=h.st.no h17;exact ⟨this.t,this.gr.size⟩
    | true => obtain ⟨v,_,this⟩:=h.st.ye h17;exact ⟨this.t,this.gr.size⟩
   refine Vm.step h (by kernel_rfl) rfl rfl rfl hl (Vl.op_call 16 #[gval g s i j,bval (L 1)] (Vl.r_call2 16 (.tmp 49) (.tmp 55) _ _ _ rfl e1 e2 (by kernel_rfl)) ?_)
   refine (superReadDescs_any g s i j (L 1) (HL.out 1) W hst.1).mono ?_
   rintro e W' ⟨v,E,rfl,hp,hb⟩
   obtain ⟨hv,rfl⟩:=rdV_of hp hst.2
   exact ⟨_,rfl,_,rfl,fun i d _ _ hv => hv.up fun _ hv => hv.below hb,Vp.W.mk (by decide) ⟨v,rfl,hv⟩,h.st.below hb⟩
  ·intro l a W hl hu h
   obtain ⟨v,e1,hv⟩:=(h.vals 11 56 (op_up hu 11 (by kernel_rfl)) rfl).post (by decide)
   exact Vm.stepQ h (by kernel_rfl) rfl rfl rfl hl _ (Vl.r_move (.tmp 56) rfl e1) (fun _ _ hv => hv.up fun _ hv => hv) (Vp.W.mk (by decide) ⟨v,rfl,hv⟩) (fun s => s)
  ·intro l a W hl hu h
   obtain ⟨v,e1,hv⟩:=(h.vals 12 44 (op_up hu 12 (by kernel_rfl)) rfl).post (by decide)
   exact Vm.stepQ h (by kernel_rfl) rfl rfl rfl hl _ (Vl.r_extract (.tmp 44) 0 _ rfl e1 rfl) (fun _ _ hv => hv.up fun _ hv => hv) (Vp.W.mk (by decide) hv) (fun s => s)
  ·intro l a W hl hu h
   obtain ⟨v,e1,hv⟩:=(h.vals 12 44 (op_up hu 12 (by kernel_rfl)) rfl).post (by decide)
   exact Vm.stepQ h (by kernel_rfl) rfl rfl rfl hl _ (Vl.r_extract (.tmp 44) 1 _ rfl e1 rfl) (fun _ _ hv => hv.up fun _ hv => hv) (Vp.W.mk (by decide) rfl) (fun s => s)
  ·intro l a W hl hu h
   have e1:a.tmps.getD 45 undef = .pointer (some ⟨p,0,none⟩):=(h.vals 0 45 (op_up hu 0 (by kernel_rfl)) rfl).pre (by decide) rfl
   exact Vm.stepQ h (by kernel_rfl) rfl rfl rfl hl _ (Vl.r_nilc (.tmp 45) rfl ⟨p,0,none⟩ e1) (fun _ _ hv => hv.up fun _ hv => hv) (Vp.W.mk (by decide) rfl) (fun s => s)
  ·intro l a W hl hu h
   have e1:a.tmps.getD 59 undef = .pointer (some ⟨p,0,none⟩):=(h.vals 15 59 (op_up hu 15 (by kernel_rfl)) rfl).post (by decide)
   exact Vm.stepQ h (by kernel_rfl) rfl rfl rfl hl _ (Vl.r_field 105 (.tmp 59) 3 rfl e1 (by kernel_rfl)) (fun _ _ hv => hv.up fun _ hv => hv) (Vp.W.mk (by decide) rfl) (fun s => s)
  ·intro l a W hl hu h
   have e1:a.tmps.getD 60 undef = .pointer (some ⟨p,10,none⟩):=(h.vals 16 60 (op_up hu 16 (by kernel_rfl)) rfl).post (by decide)
   have hv:RdV g s i j (L 1) w.heap.size (a.tmps.getD 57 undef) W:=(h.vals 13 57 (op_up hu 13 (by kernel_rfl)) rfl).post (by decide)
   have hs:=h.st.no hl
   have ho:Only p W (W.setCell ⟨p,10,none⟩ (a.tmps.getD 57 undef)):=Only.setCell W ⟨p,10,none⟩ _
   refine Vm.step h (by kernel_rfl) rfl rfl rfl hl (Vl.op_stc 51 (.tmp 60) (.tmp 57) rfl p 10 (a.tmps.getD 57 undef) (.slice none 0 0) e1 rfl (hs.a.cell (i:=10) rfl) (soft_of_heap hs.a 10) info_dsl hv.form ?_)
   refine ⟨_,rfl,fun i d _ hd hv' => hv'.up fun hi hv' => V4.map hv' fun v hv => hv.only ho HPW.out,Vp.W.mk (by decide) trivial,⟨(fun e => by have e:true = false:=e;cases e),fun _ => ⟨_,hv.only ho HPW.out,hs.put HBP.out HPW.out 10 [_] rfl⟩⟩⟩
  ·intro l a W hl hu h
   have e1:a.tmps.getD 58 undef = .int .i64 (rdEr g s i j (L 1)):=(h.vals 14 58 (op_up hu 14 (by kernel_rfl)) rfl).post (by decide)
   exact Vm.stepQ h (by kernel_rfl) rfl rfl rfl hl _ (Vl.r_assign (.tmp 58) rfl e1) (fun _ _ hv => hv.up fun _ hv => hv) (Vp.W.mk (by decide) rfl) (fun s => s)
 intro a' w9 h hall
 have hall2:=hall [56,44,57,58,59,60,3] (by kernel_rfl)
 clear hall
 obtain ⟨v11,e56,_⟩:=(h.vals 11 56 rfl rfl).post (by decide)
 obtain ⟨v12,e44,_⟩:=(h.vals 12 44 rfl rfl).post (by decide)
 obtain ⟨v13,e57⟩:∃ v,a'.tmps.getD 57 undef = v:=⟨_,rfl⟩
 have e58:a'.tmps.getD 58 undef = .int .i64 (rdEr g s i j (L 1)):=(h.vals 14 58 rfl rfl).post (by decide)
 have e59:a'.tmps.getD 59 undef = .pointer (some ⟨p,0,none⟩):=(h.vals 15 59 rfl rfl).post (by decide)
 have e60:a'.tmps.getD 60 undef = .pointer (some ⟨p,10,none⟩):=(h.vals 16 60 rfl rfl).post (by decide)
 have e3:a'.tmps.getD 3 undef = .int .i64 (rdEr g s i j (L 1)):=(h.vals 18 3 rfl rfl).post (by decide)
 obtain ⟨v,hv,hs⟩:=h.st.ye rfl
 have HV:=Lib.hid hv
 have ST9:=Lib.hid hs
 rw [List.foldl_cons,List.foldl_cons,List.foldl_cons,List.foldl_cons,List.foldl_cons,List.foldl_cons,List.foldl_cons,List.foldl_nil,e56,e44,e57,e58,e59,e60,e3] at hall2
 simp only [Act.put,List.setIfInBounds_toArray,List.set_cons_succ,List.set_cons_zero] at hall2
 subst hall2
 clear h e56 e44 e57 e58 e59 e60 e3 hv hs ST8
 obtain ⟨E,hE⟩:∃ E,E = rdEr g s i j (L 1):=⟨_,rfl⟩
 have HER:Hid ((E == 0) = rdOk g s i j (L 1)):=by show _ = _;rw [hE,rdEr_zero]
 rw [← hE]
 clear hE
 go_wp2_with fail
 refine (must_any 2 (E == 0) _).mono ?_
 rintro e w10 ⟨hS,rfl⟩
 have hmay:=HMAY.out
 unfold mayG at hmay
 simp only [decide_eq_true_eq] at hmay
 obtain ⟨h1,h2,h3,h4,h5⟩:=HNM.out
 have o0:0 ≤ o:=by rw [h5];exact (g32_bd (HL.out 0) 16).1
 have eg:(Im.of L n).g = g.toNat:=by rw [h1];rfl
 have e1:(((Im.of L n).g:Nat):Int) = g:=by rw [eg];exact Int.toNat_of_nonneg (by omega)
 have e2:(((Im.of L n).s:Nat):Int) = s:=by rw [h2];exact Int.toNat_of_nonneg (by rw [← h2];omega)
 have e3:(((Im.of L n).i:Nat):Int) = i:=by rw [h3];exact Int.toNat_of_nonneg (by rw [← h3];omega)
 have e4:(((Im.of L n).j:Nat):Int) = j:=by rw [h4];exact Int.toNat_of_nonneg (by rw [← h4];omega)
 have e5:(((Im.of L n).o:Nat):Int) = o:=by rw [h5];exact Int.toNat_of_nonneg (by rw [← h5];omega)
 have hck2:(Im.of L n).ck2 = rdOk g s i j (L 1):=by
  show rdOk (((Im.of L n).g:Nat):Int) (((Im.of L n).s:Nat):Int) (((Im.of L n).i:Nat):Int) (((Im.of L n).j:Nat):Int) (L 1) = _
  rw [e1,e2,e3,e4]
 have HCK2:Hid ((Im.of L n).ck2 = (E == 0)):=hck2.trans HER.out.symm
 rcases hS with ⟨hct,rfl⟩ | ⟨hct,rfl⟩
 rotate_left
 ·exact ⟨rfl,ST9.out.gr,.inr (.inl ⟨HY1.out,HCK2.out.trans hct,rfl⟩)⟩
 have hP:HeadPost w p b off n cap L (.returned (.tuple #[])) w9:=by
  refine ⟨ST9.out.gr,.inr (.inr ⟨HY1.out,HCK2.out.trans hct,rfl,?_⟩)⟩
  have hok:rdOk g s i j (L 1) = true:=HER.out.symm.trans hct
  rcases HV.out with ⟨_,hm⟩ | ⟨hno,_⟩
  ·obtain ⟨db,dc,rfl,hlo,hlt,_⟩:=RMine.form' hm (by omega)
   refine ⟨db,dc,hlo,hlt,?_,?_⟩
   ·have hA:=ST9.out.a
    show At w9 p _ (xcells _ (((Im.of L n).g:Nat):Int) (((Im.of L n).s:Nat):Int) (((Im.of L n).i:Nat):Int) (((Im.of L n).j:Nat):Int) (((Im.of L n).o:Nat):Int) _ _ _ _ _ _)
    rw [e1,e2,e3,e4,e5,eg]
    exact hA
   ·rw [eg];exact RMine.seg hm (fun _ => rfl)
  ·rw [hno] at hok;cases hok
 clear ST9 HV hct e1 e2 e3 e4 e5 eg hck2 h1 h2 h3 h4 h5 hmay o0
 go_wp2_with fail
 exact bodyPost_end (results_none rfl _ _ _) rfl hP
theorem Im.of_ok {L:Nat → Nat → Int} {n:Nat} (hL:∀ i,Byt (L i)) (h:(Im.of L n).ck1 = true):(Im.of L n).Ok:=by
 unfold Im.ck1 at h
 simp only [Bool.and_eq_true,decide_eq_true_eq,beq_iff_eq] at h
 obtain ⟨_,h1,h2⟩:=h
 have hm:mayG (hd (L 0) 4) (hd (L 0) 5) (hd (L 0) 6) (hd (L 0) 7) = true:=readE_may (z:=L 0) h1
 have h2:(n:Int) = nBl (hd (L 0) 4) (hd (L 0) 5) (hd (L 0) 6) (hd (L 0) 7):=h2
 rw [nBl,if_pos hm] at h2
 have hm2:=hm
 unfold mayG at hm2
 simp only [decide_eq_true_eq] at hm2
 have e1:(((Im.of L n).g:Nat):Int) = hd (L 0) 4:=Int.toNat_of_nonneg (by omega)
 have e2:(((Im.of L n).s:Nat):Int) = hd (L 0) 5:=Int.toNat_of_nonneg (by omega)
 have e3:(((Im.of L n).i:Nat):Int) = hd (L 0) 6:=Int.toNat_of_nonneg (by omega)
 have e4:(((Im.of L n).j:Nat):Int) = hd (L 0) 7:=Int.toNat_of_nonneg (by omega)
 have ho:=g32_bd (hL 0) 16
 have e5:(((Im.of L n).o:Nat):Int) = g32 (L 0) 16:=Int.toNat_of_nonneg ho.1
 refine ⟨hL,?_,?_,by omega⟩
 ·rw [e1,e2,e3,e4];exact hm
 ·have:(n:Int) = ((2 + (Im.of L n).j + (Im.of L n).g * (Im.of L n).s:Nat):Int):=by
   rw [h2,← e1,← e2,← e4,Int.natCast_add,Int.natCast_add,Int.natCast_mul];rfl
  exact Int.ofNat.inj this
theorem ckHead_none (p cap:Nat) (a:Option Addr) (L:Nat → Nat → Int) (w:World) (hA:At w p 105 (X0 (.slice a 0 cap))) :
  Calls Tryz.prog 76 #[.pointer (some ⟨p,0,none⟩)] w fun e w' => (Im.of L 0).ck1 = false ∧ e = .panicked (brk 1) ∧ w = w':=by
 have c0:w.cell? ⟨p,0,none⟩ = some (.slice a 0 cap):=hA.cell (i:=0) rfl
 clear hA
 go_enter Tryz.func76,Tryz.ntmps76
 go_wp2_with fail
 refine (must_no 1 _).mono ?_
 rintro e w1 ⟨rfl,rfl⟩
 exact ⟨rfl,rfl,rfl,rfl⟩
end Go.Proofs.YtphamecphmbipaaGreatDoor
