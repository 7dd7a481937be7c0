/- Texts of this claim, merged by a program (a claim may have 60 files): BitA, Aw1, CkQ, Aw2, WCkA. -/
import Derived.Test.YtnbmmhoofilmfaaGreatDoorK10
import Derived.Test.YtnbmmhoofilmfaaGreatDoorK23
import Derived.Test.YtnbmmhoofilmfaaGreatDoorK09
import Derived.Test.YtnbmmhoofilmfaaGreatDoorK07
import Derived.Test.YtnbmmhoofilmfaaGreatDoorK08
import Derived.Laws.BitsAllLaws
import Derived.Test.YtnbmmhoofilmfaaGreatDoorK26
import Derived.Test.YtnbmmhoofilmfaaGreatDoorK41
import Derived.Test.YtnbmmhoofilmfaaGreatDoorK42
import Derived.Test.YtnbmmhoofilmfaaGreatDoorK20
import Derived.Test.YtnbmmhoofilmfaaGreatDoorK25
namespace Go.Proofs.YtnbmmhoofilmfaaGreatDoor
open Go.RowKit
set_option linter.unusedVariables false
def clrB (P:Nat → Bool) (i:Nat):Nat → Bool:=fun j => if j = i then false else P j
theorem cl0:∀ a b c d e f g h:Bool,b8 a b c d e f g h &&& (255 - 1) = b8 false b c d e f g h:=by decide
theorem cl1:∀ a b c d e f g h:Bool,b8 a b c d e f g h &&& (255 - 2) = b8 a false c d e f g h:=by decide
theorem cl2:∀ a b c d e f g h:Bool,b8 a b c d e f g h &&& (255 - 4) = b8 a b false d e f g h:=by decide
theorem cl3:∀ a b c d e f g h:Bool,b8 a b c d e f g h &&& (255 - 8) = b8 a b c false e f g h:=by decide
theorem cl4:∀ a b c d e f g h:Bool,b8 a b c d e f g h &&& (255 - 16) = b8 a b c d false f g h:=by decide
theorem cl5:∀ a b c d e f g h:Bool,b8 a b c d e f g h &&& (255 - 32) = b8 a b c d e false g h:=by decide
theorem cl6:∀ a b c d e f g h:Bool,b8 a b c d e f g h &&& (255 - 64) = b8 a b c d e f false h:=by decide
theorem cl7:∀ a b c d e f g h:Bool,b8 a b c d e f g h &&& (255 - 128) = b8 a b c d e f g false:=by decide
theorem by8_clr (P:Nat → Bool) (k j:Nat) (hj:j < 8):by8 P k &&& (255 - 2 ^ j) = by8 (clrB P (8 * k + j)) k:=by
 have hS:∀ m,m < 8 → clrB P (8 * k + j) (8 * k + m) = if m = j then false else P (8 * k + m):=fun m hm => by
  unfold clrB
  by_cases e:m = j
  ·rw [if_pos e,if_pos (by omega)]
  ·rw [if_neg e,if_neg (by omega)]
 have h0:=hS 0 (by omega)
 rw [Nat.add_zero] at h0
 unfold by8
 rw [h0,hS 1 (by omega),hS 2 (by omega),hS 3 (by omega),hS 4 (by omega),hS 5 (by omega),hS 6 (by omega),hS 7 (by omega)]
 have:j = 0 ∨ j = 1 ∨ j = 2 ∨ j = 3 ∨ j = 4 ∨ j = 5 ∨ j = 6 ∨ j = 7:=by omega
 rcases this with rfl | rfl | rfl | rfl | rfl | rfl | rfl | rfl
 ·exact cl0 _ _ _ _ _ _ _ _
 ·exact cl1 _ _ _ _ _ _ _ _
 ·exact cl2 _ _ _ _ _ _ _ _
 ·exact cl3 _ _ _ _ _ _ _ _
 ·exact cl4 _ _ _ _ _ _ _ _
 ·exact cl5 _ _ _ _ _ _ _ _
 ·exact cl6 _ _ _ _ _ _ _ _
 ·exact cl7 _ _ _ _ _ _ _ _
theorem by8_other2 (P:Nat → Bool) {i k:Nat} (h:k ≠ i / 8):by8 (clrB P i) k = by8 P k:=by
 unfold by8 clrB
 rw [if_neg (by omega),if_neg (by omega),if_neg (by omega),if_neg (by omega),if_neg (by omega),if_neg (by omega),if_neg (by omega),if_neg (by omega)]
theorem bZ_clr_at (P:Nat → Bool) (i:Nat):bZ (clrB P i) (i / 8) = ((by8 P (i / 8) &&& (255 - 2 ^ (i % 8)):Nat):Int):=by
 unfold bZ
 rw [by8_clr P _ _ (Nat.mod_lt _ (by decide)),show 8 * (i / 8) + i % 8 = i by omega]
theorem bZ_clr_off (P:Nat → Bool) (i:Nat) {k:Nat} (h:k ≠ i / 8):bZ (clrB P i) k = bZ P k:=by unfold bZ;rw [by8_other2 P h]
theorem bZ_set_off (P:Nat → Bool) (i:Nat) {k:Nat} (h:k ≠ i / 8):bZ (setB P i) k = bZ P k:=by unfold bZ;rw [by8_other P h]
theorem by8_bit (P:Nat → Bool) (i:Nat):by8 P (i / 8) &&& 2 ^ (i % 8) = 2 ^ (i % 8) * (P i).toNat:=by
 have e:=by8_and P (i / 8) (i % 8) (Nat.mod_lt _ (by decide))
 rwa [show 8 * (i / 8) + i % 8 = i by omega] at e
structure BaS (q n:Nat) (L:Nat → Nat → Int) (W0 W:World):Prop where
 b:RArr W q 32 256 n (bkF L)
 d:∃ m,W = W0.drewN m
theorem BaS.cell {q n:Nat} {L:Nat → Nat → Int} {W0 W:World} (h:BaS q n L W0 W) {b k:Nat} (hb:b < n) (hk:k < 256):W.cell? ⟨q,b * 256 + k,none⟩ = some (.int .u8 (L b k)):=by
 have:=h.b.seg b hb k _ (Ks_get .u8 256 (L b) k hk)
 rwa [Nat.zero_add] at this
theorem bk_set {W:World} {q n:Nat} {L:Nat → Nat → Int} (h:RArr W q 32 256 n (bkF L)) {b k:Nat} (hb:b < n) (hk:k < 256) {z:Nat → Int} {v:Int} (hv:z k = v) (hz:∀ j,j < 256 → j ≠ k → z j = L b j) :
  RArr (W.setCell ⟨q,b * 256 + k,none⟩ (.int .u8 v)) q 32 256 n (bkF (updN L b z)):=by
 refine (h.cellset hb hk (fun i => bkF_len L i) (.int .u8 v)).congr fun i hi => ?_
 unfold bkF updN
 by_cases e:i = b
 ·rw [if_pos e,if_pos e,e]
  refine List.ext_getElem? fun j => ?_
  rw [List.getElem?_set]
  by_cases hj:j < 256
  ·rw [Ks_get .u8 256 z j hj]
   by_cases ej:k = j
   ·subst ej
    rw [if_pos rfl,if_pos (by rw [Ks_length];exact hk),hv]
   ·rw [if_neg ej,Ks_get .u8 256 (L b) j hj,hz j hj (fun h => ej h.symm)]
  ·rw [if_neg (by omega),List.getElem?_eq_none (by rw [Ks_length];omega),List.getElem?_eq_none (by rw [Ks_length];omega)]
 ·rw [if_neg e,if_neg e]
set_option maxRecDepth 100000 in
set_option maxHeartbeats 4000000 in
theorem bitSetA_any (q n b i:Nat) (hb:b < n) (hn:n ≤ 100000) (hi:i < 2048) (L:Nat → Nat → Int) (hL:Byt (L b)) (w:World) (hB:RArr w q 32 256 n (bkF L)) :
  Calls Tryz.prog 31 #[.pointer (some ⟨q,b * 256,none⟩),.int .i64 (i:Int)] w fun e w' =>
   (bt (L b) i = true ∧ e = .returned (.bool false) ∧ ∃ m,w' = w.drewN m) ∨ (bt (L b) i = false ∧ e = .returned (.bool true) ∧ RArr w' q 32 256 n (bkF (updN L b (bZ (setB (bt (L b)) i)))) ∧ Only q w w'):=by
 have h0:(i:Int).tdiv 8 = ((i / 8:Nat):Int):=by rw [Int.tdiv_eq_ediv_of_nonneg (by omega)];omega
 have h1:(0:Int) ≤ ((i / 8:Nat):Int):=by omega
 have h2:((i / 8:Nat):Int) < 256:=by omega
 have hY:L b (i / 8) = ((by8 (bt (L b)) (i / 8):Nat):Int):=(bZ_bt hL (i / 8)).symm
 have ha:Hid (bits .and .u8 (L b (i / 8)) ((2 ^ (i % 8):Nat):Int) = ((2 ^ (i % 8) * (bt (L b) i).toNat:Nat):Int)):=by
  show _ = _
  rw [hY,u8_and_nat _ _ (by8_lt _ _) (pow_lt8 i),by8_bit]
 have ho:Hid (bits .or .u8 (L b (i / 8)) ((2 ^ (i % 8):Nat):Int) = bZ (setB (bt (L b)) i) (i / 8)):=by
  show _ = _
  rw [hY]
  unfold bZ
  rw [u8_or_nat _ _ (by8_lt _ _) (pow_lt8 i),by8_or _ _ _ (Nat.mod_lt _ (by decide)),show 8 * (i / 8) + i % 8 = i by omega]
 have hoff:Hid (∀ j,j < 256 → j ≠ i / 8 → bZ (setB (bt (L b)) i) j = L b j):=fun j _ hj => by rw [bZ_set_off _ _ hj,bZ_bt hL]
 have hpos:Hid (0 < 2 ^ (i % 8)):=Nat.two_pow_pos _
 have st:Hid (BaS q n L w w):=⟨hB,0,rfl⟩
 have hi8:i / 8 < 256:=by omega
 have HMK:Hid (∀ W,Calls Tryz.prog 54 #[.int .i64 (i:Int)] W fun e w' => e = .returned (.int .u8 ((2 ^ (i % 8):Nat):Int)) ∧ W = w'):=fun W => bitMask_any i hi W
 clear hY hB
 generalize 2 ^ (i % 8) = M0 at *
 generalize hk:i / 8 = k at *
 clear hk
 go_enter Tryz.func31,Tryz.ntmps31
 go_wp2_with fail
 refine wp_region_S (BaS q n L w) (by kernel_rfl) (by kernel_rfl) ⟨st.out.b.of_block rfl,1,rfl⟩ ?_
 clear st
 intro hne
 have hc:∀ y:InW (BaS q n L w),y.W.cell? ⟨q,b * 256 + k,none⟩ = some (.int .u8 (L b k)):=fun y => y.h.cell hb hi8
 first | go_big_quiet_skip | (go_big_quiet_want;go_big_quiet_op;go_big_quiet_on)
 first | go_big_quiet_skip | (go_big_quiet_want;go_big_quiet_op;go_big_quiet_on)
 first | go_big_quiet_skip | (go_big_quiet_want;go_big_quiet_op;go_big_quiet_on)
 first | go_big_quiet_skip | (go_big_quiet_want;go_big_quiet_op;go_big_quiet_on)
 go_big_quiet_want
 go_big_quiet_op
 refine ⟨_,fun s => q_call s (fun W hW => (bitIs_any i hi W).mono fun e w' h => ⟨h.1,h.2 ▸ hW⟩),?_⟩
 go_big_quiet_on
 first | go_big_quiet_skip | (go_big_quiet_want;go_big_quiet_op;go_big_quiet_on)
 first | go_big_quiet_skip | (go_big_quiet_want;go_big_quiet_op;go_big_quiet_on)
 first | go_big_quiet_skip | (go_big_quiet_want;go_big_quiet_op;go_big_quiet_on)
 first | go_big_quiet_skip | (go_big_quiet_want;go_big_quiet_op;go_big_quiet_on)
 first | go_big_quiet_skip | (go_big_quiet_want;go_big_quiet_op;go_big_quiet_on)
 first | go_big_quiet_skip | (go_big_quiet_want;go_big_quiet_op;go_big_quiet_on)
 first | go_big_quiet_skip | (go_big_quiet_want;go_big_quiet_op;go_big_quiet_on)
 first | go_big_quiet_skip | (go_big_quiet_want;go_big_quiet_op;go_big_quiet_on)
 first | go_big_quiet_skip | (go_big_quiet_want;go_big_quiet_op;go_big_quiet_on)
 first | go_big_quiet_skip | (go_big_quiet_want;go_big_quiet_op;go_big_quiet_on)
 go_big_quiet_want
 go_big_quiet_op
 refine ⟨_,fun s => q_call s (fun W hW => (HMK.out W).mono fun e w' h => ⟨h.1,h.2 ▸ hW⟩),?_⟩
 go_big_quiet_on
 have ha':=ha.out
 obtain ⟨P,hP⟩:∃ P,P = bt (L b) i:=⟨_,rfl⟩
 rw [← hP] at ha'
 have HP:=Lib.hid hP
 clear hP
 cases P with
 | true =>
  rw [show M0 * true.toNat = M0 from Nat.mul_one _] at ha'
  have hp:=hpos.out
  have q1:(((M0:Nat):Int) != 0) = true:=by rw [bne_iff_ne];omega
  first | go_big_quiet_skip | (go_big_quiet_want;go_big_quiet_op;go_big_quiet_on)
  first | go_big_quiet_skip | (go_big_quiet_want;go_big_quiet_op;go_big_quiet_on)
  first | go_big_quiet_skip | (go_big_quiet_want;go_big_quiet_op;go_big_quiet_on)
  refine wpQuiet_nil ?_
  intro w5 h5
  obtain ⟨m5,hm5⟩:=h5.out.d
  have HM5:=Lib.hid hm5
  clear h5 hne hc ha' hm5
  go_wp2_with fail
  go_ret
  exact .inl ⟨HP.out.symm,rfl,by rw [HM5.out];exact ⟨m5,rfl⟩⟩
 | false =>
  rw [show M0 * false.toNat = 0 from Nat.mul_zero _] at ha'
  first | go_big_quiet_skip | (go_big_quiet_want;go_big_quiet_op;go_big_quiet_on)
  first | go_big_quiet_skip | (go_big_quiet_want;go_big_quiet_op;go_big_quiet_on)
  first | go_big_quiet_skip | (go_big_quiet_want;go_big_quiet_op;go_big_quiet_on)
  refine wpQuiet_nil ?_
  intro w5 h5
  obtain ⟨m5,hm5⟩:=h5.out.d
  have st5:=h5.out.b
  clear h5 hne hc ha'
  go_wp2_with fail
  refine wp_region_bar2 (BaS q n L w) 11 (by kernel_rfl) (by kernel_rfl) (by kernel_rfl) (by kernel_rfl) (by kernel_rfl) (by decide) ⟨st5.of_block rfl,m5 + 1,by rw [hm5];rfl⟩ ?_
  simp only [List.take_succ_cons,List.take_zero,List.drop_succ_cons,List.drop_zero]
  intro hne
  have hc:∀ y:InW (BaS q n L w),y.W.cell? ⟨q,b * 256 + k,none⟩ = some (.int .u8 (L b k)):=fun y => y.h.cell hb hi8
  first | go_big_quiet_skip | (go_big_quiet_want;go_big_quiet_op;go_big_quiet_on)
  first | go_big_quiet_skip | (go_big_quiet_want;go_big_quiet_op;go_big_quiet_on)
  first | go_big_quiet_skip | (go_big_quiet_want;go_big_quiet_op;go_big_quiet_on)
  first | go_big_quiet_skip | (go_big_quiet_want;go_big_quiet_op;go_big_quiet_on)
  first | go_big_quiet_skip | (go_big_quiet_want;go_big_quiet_op;go_big_quiet_on)
  first | go_big_quiet_skip | (go_big_quiet_want;go_big_quiet_op;go_big_quiet_on)
  first | go_big_quiet_skip | (go_big_quiet_want;go_big_quiet_op;go_big_quiet_on)
  go_big_quiet_want
  go_big_quiet_op
  refine ⟨_,fun s => q_call s (fun W hW => (HMK.out W).mono fun e w' h => ⟨h.1,h.2 ▸ hW⟩),?_⟩
  go_big_quiet_on
  have ho':=ho.out
  first | go_big_quiet_skip | (go_big_quiet_want;go_big_quiet_op;go_big_quiet_on)
  first | go_big_quiet_skip | (go_big_quiet_want;go_big_quiet_op;go_big_quiet_on)
  first | go_big_quiet_skip | (go_big_quiet_want;go_big_quiet_op;go_big_quiet_on)
  refine wpQuiet_nil ?_
  intro w6 h6
  have st6:=h6.out
  clear h6 hne hc ho' st5 hm5
  obtain ⟨m6,hm6⟩:=st6.d
  have hc6:=st6.cell hb hi8
  have hf6:=st6.b.soft (b * 256 + k)
  have HR:=Lib.hid (bk_set st6.b hb hi8 rfl hoff.out)
  have HO:Hid (Only q w (w6.setCell ⟨q,b * 256 + k,none⟩ (.int .u8 (bZ (setB (bt (L b)) i) k)))):=by
   have hd:Only q w (w.drewN m6):=(Only.refl _ _).drewN m6
   rw [← hm6] at hd
   exact hd.trans (Only.setCell w6 ⟨q,b * 256 + k,none⟩ _)
  clear st6 hm6
  go_wp2_with fail
  go_ret
  exact .inr ⟨HP.out.symm,rfl,HR.out,HO.out⟩
set_option maxRecDepth 100000 in
set_option maxHeartbeats 4000000 in
theorem bitClearA_any (q n b i:Nat) (hb:b < n) (hn:n ≤ 100000) (hi:i < 2048) (L:Nat → Nat → Int) (hL:Byt (L b)) (w:World) (hB:RArr w q 32 256 n (bkF L)) :
  Calls Tryz.prog 32 #[.pointer (some ⟨q,b * 256,none⟩),.int .i64 (i:Int)] w fun e w' =>
   (bt (L b) i = false ∧ e = .returned (.bool false) ∧ ∃ m,w' = w.drewN m) ∨ (bt (L b) i = true ∧ e = .returned (.bool true) ∧ RArr w' q 32 256 n (bkF (updN L b (bZ (clrB (bt (L b)) i)))) ∧ Only q w w'):=by
 have h0:(i:Int).tdiv 8 = ((i / 8:Nat):Int):=by rw [Int.tdiv_eq_ediv_of_nonneg (by omega)];omega
 have h1:(0:Int) ≤ ((i / 8:Nat):Int):=by omega
 have h2:((i / 8:Nat):Int) < 256:=by omega
 have hY:L b (i / 8) = ((by8 (bt (L b)) (i / 8):Nat):Int):=(bZ_bt hL (i / 8)).symm
 have ha:Hid (bits .and .u8 (L b (i / 8)) ((2 ^ (i % 8):Nat):Int) = ((2 ^ (i % 8) * (bt (L b) i).toNat:Nat):Int)):=by
  show _ = _
  rw [hY,u8_and_nat _ _ (by8_lt _ _) (pow_lt8 i),by8_bit]
 have ho:Hid (bits .andNot .u8 (L b (i / 8)) ((2 ^ (i % 8):Nat):Int) = bZ (clrB (bt (L b)) i) (i / 8)):=by
  show _ = _
  rw [hY]
  rw [u8_andNot_nat _ _ (by8_lt _ _) (pow_lt8 i),bZ_clr_at]
 have hoff:Hid (∀ j,j < 256 → j ≠ i / 8 → bZ (clrB (bt (L b)) i) j = L b j):=fun j _ hj => by rw [bZ_clr_off _ _ hj,bZ_bt hL]
 have hpos:Hid (0 < 2 ^ (i % 8)):=Nat.two_pow_pos _
 have st:Hid (BaS q n L w w):=⟨hB,0,rfl⟩
 have hi8:i / 8 < 256:=by omega
 have HMK:Hid (∀ W,Calls Tryz.prog 54 #[.int .i64 (i:Int)] W fun e w' => e = .returned (.int .u8 ((2 ^ (i % 8):Nat):Int)) ∧ W = w'):=fun W => bitMask_any i hi W
 clear hY hB
 generalize 2 ^ (i % 8) = M0 at *
 generalize hk:i / 8 = k at *
 clear hk
 go_enter Tryz.func32,Tryz.ntmps32
 go_wp2_with fail
 refine wp_region_S (BaS q n L w) (by kernel_rfl) (by kernel_rfl) ⟨st.out.b.of_block rfl,1,rfl⟩ ?_
 clear st
 intro hne
 have hc:∀ y:InW (BaS q n L w),y.W.cell? ⟨q,b * 256 + k,none⟩ = some (.int .u8 (L b k)):=fun y => y.h.cell hb hi8
 first | go_big_quiet_skip | (go_big_quiet_want;go_big_quiet_op;go_big_quiet_on)
 first | go_big_quiet_skip | (go_big_quiet_want;go_big_quiet_op;go_big_quiet_on)
 first | go_big_quiet_skip | (go_big_quiet_want;go_big_quiet_op;go_big_quiet_on)
 first | go_big_quiet_skip | (go_big_quiet_want;go_big_quiet_op;go_big_quiet_on)
 go_big_quiet_want
 go_big_quiet_op
 refine ⟨_,fun s => q_call s (fun W hW => (bitIs_any i hi W).mono fun e w' h => ⟨h.1,h.2 ▸ hW⟩),?_⟩
 go_big_quiet_on
 first | go_big_quiet_skip | (go_big_quiet_want;go_big_quiet_op;go_big_quiet_on)
 first | go_big_quiet_skip | (go_big_quiet_want;go_big_quiet_op;go_big_quiet_on)
 first | go_big_quiet_skip | (go_big_quiet_want;go_big_quiet_op;go_big_quiet_on)
 first | go_big_quiet_skip | (go_big_quiet_want;go_big_quiet_op;go_big_quiet_on)
 first | go_big_quiet_skip | (go_big_quiet_want;go_big_quiet_op;go_big_quiet_on)
 first | go_big_quiet_skip | (go_big_quiet_want;go_big_quiet_op;go_big_quiet_on)
 first | go_big_quiet_skip | (go_big_quiet_want;go_big_quiet_op;go_big_quiet_on)
 first | go_big_quiet_skip | (go_big_quiet_want;go_big_quiet_op;go_big_quiet_on)
 first | go_big_quiet_skip | (go_big_quiet_want;go_big_quiet_op;go_big_quiet_on)
 first | go_big_quiet_skip | (go_big_quiet_want;go_big_quiet_op;go_big_quiet_on)
 go_big_quiet_want
 go_big_quiet_op
 refine ⟨_,fun s => q_call s (fun W hW => (HMK.out W).mono fun e w' h => ⟨h.1,h.2 ▸ hW⟩),?_⟩
 go_big_quiet_on
 have ha':=ha.out
 obtain ⟨P,hP⟩:∃ P,P = bt (L b) i:=⟨_,rfl⟩
 rw [← hP] at ha'
 have HP:=Lib.hid hP
 clear hP
 cases P with
 | false =>
  rw [show M0 * false.toNat = 0 from Nat.mul_zero _] at ha'
  first | go_big_quiet_skip | (go_big_quiet_want;go_big_quiet_op;go_big_quiet_on)
  first | go_big_quiet_skip | (go_big_quiet_want;go_big_quiet_op;go_big_quiet_on)
  first | go_big_quiet_skip | (go_big_quiet_want;go_big_quiet_op;go_big_quiet_on)
  refine wpQuiet_nil ?_
  intro w5 h5
  obtain ⟨m5,hm5⟩:=h5.out.d
  have HM5:=Lib.hid hm5
  clear h5 hne hc ha' hm5
  go_wp2_with fail
  go_ret
  exact .inl ⟨HP.out.symm,rfl,by rw [HM5.out];exact ⟨m5,rfl⟩⟩
 | true =>
  rw [show M0 * true.toNat = M0 from Nat.mul_one _] at ha'
  have hp:=hpos.out
  have q1:(((M0:Nat):Int) == 0) = false:=by rw [beq_eq_false_iff_ne];omega
  first | go_big_quiet_skip | (go_big_quiet_want;go_big_quiet_op;go_big_quiet_on)
  first | go_big_quiet_skip | (go_big_quiet_want;go_big_quiet_op;go_big_quiet_on)
  first | go_big_quiet_skip | (go_big_quiet_want;go_big_quiet_op;go_big_quiet_on)
  refine wpQuiet_nil ?_
  intro w5 h5
  obtain ⟨m5,hm5⟩:=h5.out.d
  have st5:=h5.out.b
  clear h5 hne hc ha'
  go_wp2_with fail
  refine wp_region_bar2 (BaS q n L w) 11 (by kernel_rfl) (by kernel_rfl) (by kernel_rfl) (by kernel_rfl) (by kernel_rfl) (by decide) ⟨st5.of_block rfl,m5 + 1,by rw [hm5];rfl⟩ ?_
  simp only [List.take_succ_cons,List.take_zero,List.drop_succ_cons,List.drop_zero]
  intro hne
  have hc:∀ y:InW (BaS q n L w),y.W.cell? ⟨q,b * 256 + k,none⟩ = some (.int .u8 (L b k)):=fun y => y.h.cell hb hi8
  first | go_big_quiet_skip | (go_big_quiet_want;go_big_quiet_op;go_big_quiet_on)
  first | go_big_quiet_skip | (go_big_quiet_want;go_big_quiet_op;go_big_quiet_on)
  first | go_big_quiet_skip | (go_big_quiet_want;go_big_quiet_op;go_big_quiet_on)
  first | go_big_quiet_skip | (go_big_quiet_want;go_big_quiet_op;go_big_quiet_on)
  first | go_big_quiet_skip | (go_big_quiet_want;go_big_quiet_op;go_big_quiet_on)
  first | go_big_quiet_skip | (go_big_quiet_want;go_big_quiet_op;go_big_quiet_on)
  first | go_big_quiet_skip | (go_big_quiet_want;go_big_quiet_op;go_big_quiet_on)
  go_big_quiet_want
  go_big_quiet_op
  refine ⟨_,fun s => q_call s (fun W hW => (HMK.out W).mono fun e w' h => ⟨h.1,h.2 ▸ hW⟩),?_⟩
  go_big_quiet_on
  have ho':=ho.out
  first | go_big_quiet_skip | (go_big_quiet_want;go_big_quiet_op;go_big_quiet_on)
  first | go_big_quiet_skip | (go_big_quiet_want;go_big_quiet_op;go_big_quiet_on)
  first | go_big_quiet_skip | (go_big_quiet_want;go_big_quiet_op;go_big_quiet_on)
  refine wpQuiet_nil ?_
  intro w6 h6
  have st6:=h6.out
  clear h6 hne hc ho' st5 hm5
  obtain ⟨m6,hm6⟩:=st6.d
  have hc6:=st6.cell hb hi8
  have hf6:=st6.b.soft (b * 256 + k)
  have HR:=Lib.hid (bk_set st6.b hb hi8 rfl hoff.out)
  have HO:Hid (Only q w (w6.setCell ⟨q,b * 256 + k,none⟩ (.int .u8 (bZ (clrB (bt (L b)) i) k)))):=by
   have hd:Only q w (w.drewN m6):=(Only.refl _ _).drewN m6
   rw [← hm6] at hd
   exact hd.trans (Only.setCell w6 ⟨q,b * 256 + k,none⟩ _)
  clear st6 hm6
  go_wp2_with fail
  go_ret
  exact .inr ⟨HP.out.symm,rfl,HR.out,HO.out⟩
theorem awExam0 (lk:Int):(Im.of ((plA 0 lk).img xA) 66).exam = (0,fun _ => 0) ∧ (Im.of ((plA 0 lk).img xA) 66).o = 0:=by
 rw [img0]
 refine ⟨mk_exam mayA,?_⟩
 have h:=mk_of mayA
 have h2:Im.of LA 66 = mkIm 1 24 8 40:=h
 rw [h2]
theorem awGood:Im.Good (xB 0) (fun _ => false) o4A (updN (fun _ => []) 1 [2]):=by
 have h:=awB (lk:=0) (.inl rfl)
 refine ⟨h.c1,h.c2,h.c3,h.c4,h.c5,h.orph,h.c6,h.trees,h.c8,h.dirs,fun t h1 h2 => ?_,h.c11,h.c12⟩
 by_cases e:t = 2
 ·subst e;rw [h.c10'];rfl
 ·exact h.c10 t h1 h2 e
theorem awExam1:(Im.of ((plA 1 0).img xA) 66).exam = (0,o4A):=by
 have e:Im.of ((plA 1 0).img xA) 66 = xB 0:=by rw [img1];exact of_xB 0
 rw [e]
 exact Im.exam_good awGood
theorem awExam10:(Im.of ((plA 1 1).img xA) 66).exam.1 = 10:=by
 have e:Im.of ((plA 1 1).img xA) 66 = xB 1:=by rw [img1];exact of_xB 1
 rw [e]
 have h:=awB (lk:=1) (.inr rfl)
 have h10:allB (fun t => (xB 1).ck10 (updN (fun _ => []) 1 [2]) (t + 1)) (xB 1).ni = false:=by
  cases c:allB (fun t => (xB 1).ck10 (updN (fun _ => []) 1 [2]) (t + 1)) (xB 1).ni with
  | false => rfl
  | true =>
   have:=Im.all1.1 c 2 (by decide) (show 2 ≤ 8 by decide)
   rw [h.c10'] at this
   cases this
 have c3:allB (xB 1).ck3 (xB 1).g = true:=(allB_iff _ _).2 h.c3
 have c4:allB (fun t => (xB 1).ck4 (t + 1)) (xB 1).ni = true:=Im.all1.2 h.c4
 have c6:allB (fun t => (xB 1).ck6 (fun _ => false) (t + 1)) (xB 1).ni = true:=Im.all1.2 h.c6
 have c8:allB ((xB 1).ck8 o4A) (xB 1).g = true:=(allB_iff _ _).2 h.c8
 unfold Im.exam
 rw [h.c1,h.c2,c3,c4,h.orph]
 rw [if_neg (by decide),if_neg (by decide),if_neg (by decide),if_neg (by decide),if_neg (fun e => e h.c5)]
 show (if allB (fun t => (xB 1).ck6 (fun _ => false) (t + 1)) (xB 1).ni = false then _ else _:Nat × (Nat → Nat)).1 = _
 rw [c6,if_neg (by decide),h.trees]
 show (if allB ((xB 1).ck8 o4A) (xB 1).g = false then _ else _:Nat × (Nat → Nat)).1 = _
 rw [c8,if_neg (by decide),h.dirs]
 show (if allB (fun t => (xB 1).ck10 (updN (fun _ => []) 1 [2]) (t + 1)) (xB 1).ni = false then _ else _:Nat × (Nat → Nat)).1 = _
 rw [h10,if_pos rfl]
def LC:Nat → Nat → Int:=updN LA 42 (bZ (clrB (bt (LA 42)) 0))
theorem LC_byt (b:Nat):Byt (LC b):=by
 unfold LC updN;split
 ·exact bZ_byt _
 ·exact mkB_byt _ _ _ _ _
theorem awExam3:(Im.of LC 66).exam.1 = 3:=by
 obtain ⟨m,u,h⟩:=mk_good mayA
 have h0:LC 0 = LA 0:=by unfold LC updN;rw [if_neg (by decide)]
 have h1:LC 1 = LA 1:=by unfold LC updN;rw [if_neg (by decide)]
 have e:Im.of LC 66 = { xA with L:=LC }:=by
  have hm:=mk_of mayA
  unfold Im.of at hm ⊢
  rw [h0]
  injection hm with _ _ e1 e2 e3 e4 e5
  show (⟨LC,66,_,_,_,_,_⟩:Im) = _
  rw [e1,e2,e3,e4,e5]
 rw [e]
 have c1:Im.ck1 { xA with L:=LC } = true:=by
  have:=h.c1
  unfold Im.ck1 at this ⊢
  show (decide (0 < xA.n) && (readE (LC 0) == 0 && ((xA.n:Int) == nBl (hd (LC 0) 4) (hd (LC 0) 5) (hd (LC 0) 6) (hd (LC 0) 7)))) = true
  rw [h0];exact this
 have c2:Im.ck2 { xA with L:=LC } = true:=by
  have:=h.c2
  unfold Im.ck2 at this ⊢
  show rdOk xA.g xA.s xA.i xA.j (LC 1) = true
  rw [h1];exact this
 have c3:allB (Im.ck3 { xA with L:=LC }) 1 = false:=by
  have hb:bt (LC 42) 0 = false:=by
   unfold LC updN
   rw [if_pos rfl,bt_bZ];rfl
  cases c:allB (Im.ck3 { xA with L:=LC }) 1 with
  | false => rfl
  | true =>
   have:=(allB_iff _ _).1 c 0 (by decide)
   have e3:Im.ck3 { xA with L:=LC } 0 = (Im.allS (bt (LC 42)) 0 4 && (Im.allS (bt (LC 42)) 24 2048 && Im.allS (bt (LC 43)) 8 2048)):=by kernel_rfl
   rw [e3,Bool.and_eq_true,Im.allS_iff] at this
   have:=this.1 0 (by decide) (by decide)
   rw [hb] at this;cases this
 unfold Im.exam
 rw [c1,c2,if_neg (by decide),if_neg (by decide)]
 show (if allB (Im.ck3 { xA with L:=LC }) 1 = false then _ else _:Nat × (Nat → Nat)).1 = _
 rw [c3,if_pos rfl]
theorem awExamZ:(Im.of (fun _ _ => 0) 66).exam.1 = 1:=by
 have c1:(Im.of (fun _ _ => 0) 66).ck1 = false:=by kernel_rfl
 unfold Im.exam
 rw [c1,if_pos rfl]
theorem exam_none (L:Nat → Nat → Int):(Im.of L 0).exam.1 = 1:=by
 have c1:(Im.of L 0).ck1 = false:=by unfold Im.ck1 Im.of;rfl
 unfold Im.exam
 rw [c1,if_pos rfl]
theorem awCount:cntB (fun b => o4A b == 2) 66 = 3:=by decide +kernel
set_option maxRecDepth 100000 in
theorem ckRule_any (v:Value) (n:Nat) (L:Nat → Nat → Int) (hL:∀ i,Byt (L i)) (hn9:n ≤ 4294967296) (w:World) (hT:Tab w) (hv:ImV w v n L) :
  Calls Tryz.prog 25 #[v] w fun e w' => e = .returned (.int .i64 (((Im.of L n).exam.1:Nat):Int)) ∧ Below w.heap.size w w':=by
 have HE:=Lib.hid (ckExamine_all v n L hL hn9 w hT hv)
 clear hT hv hL
 go_enter Tryz.func25,Tryz.ntmps25
 go_wp2_with fail
 refine HE.out.mono ?_
 rintro e w1 ⟨p,rfl,hb,_⟩
 have HB:=Lib.hid hb
 clear hb HE
 go_wp2_with fail
 go_ret
 exact ⟨rfl,HB.out⟩
set_option maxRecDepth 100000 in
theorem ckImage_any (v:Value) (n:Nat) (L:Nat → Nat → Int) (hL:∀ i,Byt (L i)) (hn9:n ≤ 4294967296) (w:World) (hT:Tab w) (hv:ImV w v n L) :
  Calls Tryz.prog 18 #[v] w fun e w' => (((Im.of L n).exam.1 ≠ 0 ∧ e = .returned (.tuple #[sval 0 0 0 0 0,.int .i64 200])) ∨ ((Im.of L n).exam.1 = 0 ∧ (Im.of L n).Ok ∧ e = .returned (.tuple #[sval (Im.of L n).g (Im.of L n).s (Im.of L n).i (Im.of L n).j (Im.of L n).o,.int .i64 0]))) ∧ Below w.heap.size w w':=by
 have hzs:=zero_super
 have hA0:=At.new w 47 (scells 0 0 0 0 0)
 have hb0:Below w.heap.size w (w.alloc (.cells (scells 0 0 0 0 0) 47)):=(Below.refl _ _).alloc (Nat.le_refl _) _
 have HE:=Lib.hid (ckExamine_all v n L hL hn9 _ (hT.below hb0 (Nat.le_refl _)) (hv.below hb0))
 have HA0:=Lib.hid hA0
 have HB0:=Lib.hid hb0
 clear hT hv hL hA0 hb0
 go_enter Tryz.func18,Tryz.ntmps18
 go_wp2_with fail
 refine HE.out.mono ?_
 rintro e w1 ⟨p,rfl,hb,hx⟩
 have hr:=HA0.out.below hb HA0.out.lt
 have HB:=Lib.hid (HB0.out.trans (hb.mono HB0.out.size))
 have HX:=Lib.hid hx
 clear hb HE hx HA0 HB0
 obtain ⟨K,hK⟩:∃ K,K = (((Im.of L n).exam.1:Nat):Int):=⟨_,rfl⟩
 rw [← hK]
 have HK:=Lib.hid hK
 clear hK
 by_cases h0:K = 0
 ·have q0:(K != 0) = false:=by simp [h0]
  have e0:(Im.of L n).exam.1 = 0:=by have:=HK.out;omega
  obtain ⟨hok,ds,ino,orp,sl,un,g,hA,hR,hg,hpg⟩:=HX.out e0
  have HO:=Lib.hid hok
  have E0:=Lib.hid e0
  have hrg:w1.rangeAt p 1 (scells (Im.of L n).g (Im.of L n).s (Im.of L n).i (Im.of L n).j (Im.of L n).o).toList:=fun k v' hk => by
   match k,hk with
   | 0,hk => injection hk with hk;subst hk;exact hA.cell (i:=1) rfl
   | 1,hk => injection hk with hk;subst hk;exact hA.cell (i:=2) rfl
   | 2,hk => injection hk with hk;subst hk;exact hA.cell (i:=3) rfl
   | 3,hk => injection hk with hk;subst hk;exact hA.cell (i:=4) rfl
   | 4,hk => injection hk with hk;subst hk;exact hA.cell (i:=5) rfl
   | k + 5,hk => cases hk
  clear h0 HX hA hR hg hpg hok e0
  go_wp2_with (first | (refine wp_loadMid rfl 47 _ rfl p 1 (scells (Im.of L n).g (Im.of L n).s (Im.of L n).i (Im.of L n).j (Im.of L n).o).toList _ rfl hrg Tryz.underlying47 rfl (by kernel_rfl) ?_) | (refine wp_storeAt rfl 47 (.tmp 2) (.tmp 17) rfl w.heap.size (scells (Im.of L n).g (Im.of L n).s (Im.of L n).i (Im.of L n).j (Im.of L n).o) (scells 0 0 0 0 0) rfl rfl hr info_super rfl (all_s _ _ _ _ _) ?_))
  intro w9 hR9 ho9
  clear hrg hr
  go_wp2_with fail
  exact bodyPost_ret (results_sup2 rfl _ _ w.heap.size _ _ _ _ _ rfl hR9) rfl ⟨.inr ⟨E0.out,HO.out,rfl⟩,HB.out.trans (ho9.below (Nat.le_refl _))⟩
 ·have q0:(K != 0) = true:=by simp [h0]
  have E0:Hid ((Im.of L n).exam.1 ≠ 0):=by show _ ≠ _;have:=HK.out;omega
  clear h0 HX
  go_wp2_with (first | (refine wp_storeAt rfl 47 (.tmp 2) (.tmp 13) rfl w.heap.size (scells 0 0 0 0 0) (scells 0 0 0 0 0) rfl rfl hr info_super rfl (all_s _ _ _ _ _) ?_))
  intro w9 hR9 ho9
  clear hr
  go_wp2_with fail
  exact bodyPost_ret (results_sup2 rfl _ _ w.heap.size _ _ _ _ _ rfl hR9) rfl ⟨.inl ⟨E0.out,rfl⟩,HB.out.trans (ho9.below (Nat.le_refl _))⟩
set_option maxRecDepth 100000 in
theorem ckQuiet_any (v:Value) (n:Nat) (L:Nat → Nat → Int) (hL:∀ i,Byt (L i)) (hn9:n ≤ 4294967296) (w:World) (hT:Tab w) (hv:ImV w v n L) :
  Calls Tryz.prog 29 #[v] w fun e w' => e = .returned (.bool (decide ((Im.of L n).exam.1 = 0 ∧ (Im.of L n).o = 0))) ∧ Below w.heap.size w w':=by
 have HE:=Lib.hid (ckExamine_all v n L hL hn9 w hT hv)
 clear hT hv hL
 go_enter Tryz.func29,Tryz.ntmps29
 go_wp2_with fail
 refine HE.out.mono ?_
 rintro e w1 ⟨p,rfl,hb,hx⟩
 have HB:=Lib.hid hb
 have HX:=Lib.hid hx
 clear hb HE hx
 obtain ⟨K,hK⟩:∃ K,K = (((Im.of L n).exam.1:Nat):Int):=⟨_,rfl⟩
 rw [← hK]
 have HK:=Lib.hid hK
 clear hK
 by_cases h0:K = 0
 ·have q0:(K == 0) = true:=by simp [h0]
  have e0:(Im.of L n).exam.1 = 0:=by have:=HK.out;omega
  obtain ⟨hok,ds,ino,orp,sl,un,g,hA,hR,hg,hpg⟩:=HX.out e0
  have E0:=Lib.hid e0
  obtain ⟨O,hO⟩:∃ O,O = (((Im.of L n).o:Nat):Int):=⟨_,rfl⟩
  have c5:w1.cell? ⟨p,5,none⟩ = some (.int .u32 O):=by rw [hO];exact hA.cell (i:=5) rfl
  have HO:=Lib.hid hO
  clear h0 HX hA hR hg hpg hok e0 hO
  go_wp2_with fail
  go_ret
  refine ⟨?_,HB.out⟩
  have:(O == 0) = decide ((Im.of L n).exam.1 = 0 ∧ (Im.of L n).o = 0):=by
   rw [HO.out,E0.out]
   by_cases h:(Im.of L n).o = 0
   ·simp [h]
   ·simp [h]
  rw [this];rfl
 ·have q0:(K == 0) = false:=by simp [h0]
  have E0:Hid ((Im.of L n).exam.1 ≠ 0):=by show _ ≠ _;have:=HK.out;omega
  clear h0 HX
  go_wp2_with fail
  go_ret
  exact ⟨by rw [decide_eq_false (fun h => E0.out h.1)];rfl,HB.out⟩
def OwnPost (w:World) (n:Nat) (L:Nat → Nat → Int) (e:Ending) (w':World):Prop :=
 Below w.heap.size w w' ∧ (((Im.of L n).exam.1 ≠ 0 ∧ e = .returned (.slice none 0 0)) ∨ ((Im.of L n).exam.1 = 0 ∧ (Im.of L n).Ok ∧ ∃ g,e = .returned (.slice (some ⟨g,0,none⟩) n n) ∧ w.heap.size ≤ g ∧ RArr w' g 3 1 n (ownF (Im.of L n).exam.2)))
set_option maxRecDepth 100000 in
theorem ckOwners_any (v:Value) (n:Nat) (L:Nat → Nat → Int) (hL:∀ i,Byt (L i)) (hn9:n ≤ 4294967296) (w:World) (hT:Tab w) (hv:ImV w v n L) :
  Calls Tryz.prog 17 #[v] w fun e w' => OwnPost w n L e w':=by
 have HE:=Lib.hid (ckExamine_all v n L hL hn9 w hT hv)
 clear hT hv hL
 go_enter Tryz.func17,Tryz.ntmps17
 go_wp2_with fail
 refine HE.out.mono ?_
 rintro e w1 ⟨p,rfl,hb,hx⟩
 have HB:=Lib.hid hb
 have HX:=Lib.hid hx
 clear hb HE hx
 obtain ⟨K,hK⟩:∃ K,K = (((Im.of L n).exam.1:Nat):Int):=⟨_,rfl⟩
 rw [← hK]
 have HK:=Lib.hid hK
 clear hK
 by_cases h0:K = 0
 ·have q0:(K != 0) = false:=by simp [h0]
  have e0:(Im.of L n).exam.1 = 0:=by have:=HK.out;omega
  obtain ⟨hok,ds,ino,orp,sl,un,g,hA,hR,hg,hpg⟩:=HX.out e0
  have c13:w1.cell? ⟨p,13,none⟩ = some (.slice (some ⟨g,0,none⟩) n n):=hA.cell (i:=13) rfl
  have HF:Hid ((Im.of L n).exam.1 = 0 ∧ (Im.of L n).Ok ∧ w.heap.size ≤ g ∧ RArr w1 g 3 1 n (ownF (Im.of L n).exam.2)):=⟨e0,hok,hg,hR⟩
  clear h0 HX hA hR hg hpg hok e0
  go_wp2_with fail
  go_ret
  exact ⟨HB.out,.inr ⟨HF.out.1,HF.out.2.1,g,rfl,HF.out.2.2⟩⟩
 ·have q0:(K != 0) = true:=by simp [h0]
  have E0:Hid ((Im.of L n).exam.1 ≠ 0):=by show _ ≠ _;have:=HK.out;omega
  clear h0 HX
  go_wp2_with fail
  go_ret
  exact ⟨HB.out,.inl ⟨E0.out,rfl⟩⟩
theorem plA_bd (n:Nat) (hn:n ≤ 1) (lk:Int) (hl:-9223372036854775808 ≤ lk ∧ lk ≤ 9223372036854775807):(plA n lk).Bd :=
 ⟨by show (n:Int) ≤ _;omega,by show (0:Int) ≤ _;decide,fun _ => by show (2:Int) ≤ _;decide,fun _ => by show (1:Int) ≤ _;decide,fun _ _ => by show (1:Int) ≤ _;decide,fun _ => by show (0:Int) ≤ 1 ∧ (1:Int) < 256;decide,
  fun _ => by show (-9223372036854775808:Int) ≤ 3000 ∧ (3000:Int) ≤ _;decide,fun _ => hl,fun _ k => by show (-9223372036854775808:Int) ≤ (if k = 0 then 1 else 9) ∧ (if k = 0 then (1:Int) else 9) ≤ _;split <;> decide,
  fun _ _ => by show (-9223372036854775808:Int) ≤ 0 ∧ (0:Int) ≤ _;decide,fun _ => by show (-9223372036854775808:Int) ≤ 0 ∧ (0:Int) ≤ _;decide,fun _ => by show (-9223372036854775808:Int) ≤ 0 ∧ (0:Int) ≤ _;decide,fun _ => by show (0:Int) ≤ 0 ∧ (0:Int) < 256;decide⟩
theorem plA_small (n:Nat) (hn:n ≤ 1) (lk:Int):(plA n lk).Small:=by
 refine ⟨by show n ≤ 300;omega,by show 0 ≤ 100;decide,?_,fun i _ k _ => by show (1:Nat) ≤ 1000;decide⟩
 show (plA n lk).cn n ≤ 1000
 have:n = 0 ∨ n = 1:=by omega
 rcases this with rfl | rfl
 ·show 0 ≤ 1000;decide
 ·show 0 + (2 + 1) ≤ 1000;decide
def AwImg (P:PlanD) (w:World) (n:Nat) (e:Ending) (w':World):Prop :=
 Below w.heap.size w w' ∧ ∃ q,e = .returned (.slice (some ⟨q,0,none⟩) n n) ∧ w.heap.size ≤ q ∧ RArr w' q 32 256 n (bkF (P.img xA)) ∧ ∀ b,Byt (P.img xA b)
theorem aw_img {P:PlanD} {w:World} {n:Nat} (hn:n = 66) {e:Ending} {w':World} (h:ImgPost 1 24 8 40 P w e w'):AwImg P w n e w':=by
 subst hn
 obtain ⟨hb,h⟩:=h
 refine ⟨hb,?_⟩
 rcases h with ⟨hm,-⟩ | ⟨x,q,hx,hxm,e1,e2,e3,e4,rfl,hq,hr,hy⟩
 ·rw [mayA] at hm;cases hm
 ·have g1:x.g = 1:=by omega
  have g2:x.s = 24:=by omega
  have g3:x.i = 8:=by omega
  have g4:x.j = 40:=by omega
  have hxA:x = xA:=by rw [hxm,g1,g2,g3,g4]
  subst hxA
  exact ⟨q,rfl,hq,hr,hy⟩
def dA (b:Nat):PlAd:=⟨some ⟨b + 2,0,none⟩,1,none,0,fun _ => some ⟨b,0,none⟩,fun _ => 2,fun _ => some ⟨b + 1,0,none⟩,fun _ => 1⟩
def d0A:PlAd:=⟨none,0,none,0,fun _ => none,fun _ => 0,fun _ => none,fun _ => 0⟩
theorem d0_rows (lk:Int) (B:Nat) (W:World):PlnR B d0A (plA 0 lk) W :=
 ⟨⟨.inl rfl,fun _ _ e => by cases e⟩,fun i hi => absurd hi (Nat.not_lt_zero _),fun i hi => absurd hi (Nat.not_lt_zero _),⟨.inl rfl,fun _ _ e => by cases e⟩⟩
abbrev flA (b:Nat) (lk:Int):Array Value:=#[.int .u8 1,.int .i64 3000,.slice (some ⟨b,0,none⟩) 2 2,.slice (some ⟨b + 1,0,none⟩) 1 1,.bool false,.int .i64 lk]
abbrev plAr (b:Nat):Array Value:=#[.int .i64 1,.int .i64 24,.int .i64 8,.int .i64 40,.slice (some ⟨b + 2,0,none⟩) 1 1,.slice none 0 0,.bool false]
structure Aw2S (b:Nat) (lk:Int) (w W:World):Prop where
 g:At W w.heap.size 23 (gcells 1 24 8 40)
 i:At W b 3 #[.int .i64 1,.int .i64 9]
 n:At W (b + 1) 92 #[.int .i64 0,.string nmA]
 f:At W (b + 2) 90 (flA b lk)
 p:At W (b + 3) 27 (plAr b)
 bel:Below w.heap.size w W
 lb:w.heap.size < b
section
variable {b:Nat} {lk:Int} {w W W':World}
theorem Aw2S.below (h:Aw2S b lk w W) (hb:Below W.heap.size W W'):Aw2S b lk w W' :=
 ⟨h.g.below hb h.g.lt,h.i.below hb h.i.lt,h.n.below hb h.n.lt,h.f.below hb h.f.lt,h.p.below hb h.p.lt,h.bel.trans (hb.mono h.bel.size),h.lb⟩
theorem Aw2S.rows (h:Aw2S b lk w W):PlnR W.heap.size (dA b) (plA 1 lk) W:=by
 have hr:∀ {T:TypeId} {cs:Array Value} {g m n:Nat} {f:Nat → List Value},At W g T cs → (∀ i,i < n → ∀ j v,(f i)[j]? = some v → cs[i * m + j]? = some v) → OldR W.heap.size W (some ⟨g,0,none⟩) m n f:=fun {T cs g m n f} hA hf =>
  ⟨.inr ⟨g,0,rfl,fun i hi j v hv => by rw [Nat.zero_add];exact hA.cell (hf i hi j v hv)⟩,fun b off e _ => by injection e with e;injection e with e;subst e;exact hA.lt⟩
 refine ⟨hr h.f fun i hi j v hv => ?_,fun i hi => hr h.i fun k hk j v hv => ?_,fun i hi => hr h.n fun k hk j v hv => ?_,⟨.inl rfl,fun _ _ e => by cases e⟩⟩
 ·obtain rfl:i = 0:=by have:i < 1:=hi;omega
  rw [show 0 * 6 + j = j by omega,← Array.getElem?_toList]
  exact hv
 ·have hk:k < 2:=hk
  have hj:j = 0:=by
   rcases Nat.eq_zero_or_pos j with h | h
   ·exact h
   ·obtain ⟨j',rfl⟩:∃ j',j = j' + 1:=⟨j - 1,by omega⟩
    cases hv
  subst hj
  have:k = 0 ∨ k = 1:=by omega
  rcases this with rfl | rfl <;> exact hv
 ·obtain rfl:k = 0:=by have:k < 1:=hk;omega
  rw [show 0 * 2 + j = j by omega,← Array.getElem?_toList]
  exact hv
theorem Aw2S.img (h:Aw2S b lk w W) (hl:lk = 0 ∨ lk = 1) {n:Nat} (hn:n = 66):Calls Tryz.prog 12 #[.agg (plAr b)] W fun e w' => AwImg (plA 1 lk) W n e w' :=
 (image20_any 1 24 8 40 (dA b) (plA 1 lk) (plA_bd 1 (by decide) lk (by omega)) (plA_small 1 (by decide) lk) W h.rows).mono fun e w' h => aw_img hn h
end
theorem run_nm20 (x:Int) (s:ByteArray) (W:World):(Instr.buildSlice 88 1 #[(0,.agg #[.int .i64 x,.string s])]).run Tryz.prog W = .ok (.slice (some ⟨W.heap.size,0,none⟩) 1 1) (W.alloc (.cells #[.int .i64 x,.string s] 92)):=by kernel_rfl
theorem run_fl20 (k s:Int) (a:Option Addr) (n c:Nat) (a':Option Addr) (n' c':Nat) (o:Bool) (l:Int) (W:World):(Instr.buildSlice 24 1 #[(0,.agg #[.int .u8 k,.int .i64 s,.slice a n c,.slice a' n' c',.bool o,.int .i64 l])]).run Tryz.prog W = .ok (.slice (some ⟨W.heap.size,0,none⟩) 1 1) (W.alloc (.cells #[.int .u8 k,.int .i64 s,.slice a n c,.slice a' n' c',.bool o,.int .i64 l] 90)):=by kernel_rfl
theorem aw_img0 {n:Nat} (hn:n = 66) (w:World):Calls Tryz.prog 12 #[.agg #[.int .i64 1,.int .i64 24,.int .i64 8,.int .i64 40,.slice none 0 0,.slice none 0 0,.bool false]] w fun e w' => AwImg (plA 0 0) w n e w' :=
 (image20_any 1 24 8 40 d0A (plA 0 0) (plA_bd 0 (by decide) 0 (by decide)) (plA_small 0 (by decide) 0) w (d0_rows 0 _ _)).mono fun e w' h => aw_img hn h
structure Aw3S (b:Nat) (lk:Int) (q0 q1 g2 n:Nat) (L0 L1:Nat → Nat → Int) (w W:World):Prop where
 s:Aw2S b lk w W
 l:RArr W q0 32 256 n (bkF L0)
 m:RArr W q1 32 256 n (bkF L1)
 o:RArr W g2 3 1 n (ownF o4A)
theorem Aw3S.below {b:Nat} {lk:Int} {q0 q1 g2 n:Nat} {L0 L1:Nat → Nat → Int} {w W W':World} (h:Aw3S b lk q0 q1 g2 n L0 L1 w W) (hb:Below W.heap.size W W'):Aw3S b lk q0 q1 g2 n L0 L1 w W' :=
 ⟨h.s.below hb,h.l.below hb,h.m.below hb,h.o.below hb⟩
theorem imv_of {W:World} {q n:Nat} {L:Nat → Nat → Int} (h:RArr W q 32 256 n (bkF L)):ImV W (.slice (some ⟨q,0,none⟩) n n) n L:=⟨_,_,rfl,fun _ => ⟨q,0,rfl,h.lt,h.seg⟩⟩
theorem aw_rule {n k:Nat} (hn:n ≤ 4294967296) {L:Nat → Nat → Int} (hL:∀ b,Byt (L b)) (hk:(Im.of L n).exam.1 = k) {q:Nat} {W:World} (hT:Tab W) (h:RArr W q 32 256 n (bkF L)):Calls Tryz.prog 25 #[.slice (some ⟨q,0,none⟩) n n] W fun e w' => e = .returned (.int .i64 (k:Int)) ∧ Below W.heap.size W w':=by
 have:=ckRule_any (.slice (some ⟨q,0,none⟩) n n) n L hL hn W hT (imv_of h)
 rw [hk] at this
 exact this
theorem aw_ruleN {W:World} (hT:Tab W):Calls Tryz.prog 25 #[.slice none 0 0] W fun e w' => e = .returned (.int .i64 1) ∧ Below W.heap.size W w':=by
 have:=ckRule_any (.slice none 0 0) 0 (fun _ _ => 0) (fun _ => zero_byt) (by decide) W hT ⟨none,0,rfl,fun h => absurd h (Nat.lt_irrefl _)⟩
 rw [exam_none] at this
 exact this
set_option maxRecDepth 100000 in
set_option maxHeartbeats 8000000 in
theorem awake20_any (w:World) (hT:Tab w):Calls Tryz.prog 16 #[] w fun e w' => e = .returned (.bool true) ∧ Below w.heap.size w w':=by
 obtain ⟨n,hn⟩:∃ n,n = 66:=⟨_,rfl⟩
 have HN:=Lib.hid hn
 have HT:=Lib.hid hT
 have hA0:=At.new w 23 (gcells 0 0 0 0)
 clear hn hT
 go_enter Tryz.func16,Tryz.ntmps16
 go_wp2_with fail
 refine (aw_img0 HN.out _).mono ?_
 rintro e w1 ⟨hb1,q0,rfl,hq0,hl0,hy0⟩
 have hg1:At w1 w.heap.size 23 (gcells 1 24 8 40):=(At.new w 23 (gcells 1 24 8 40)).below hb1 (by simp)
 have hbel1:Below w.heap.size w w1:=((Below.refl _ _).alloc (Nat.le_refl _) _).trans (hb1.mono (by simp))
 have hs1:=hg1.lt
 have hb2:=run_int2c 1 9
 have hb3:=run_nm20 0 ⟨#[97]⟩
 have hb4:=run_fl20 1 3000
 have HG1:=Lib.hid hg1
 have HL0:=Lib.hid hl0
 have HY0:=Lib.hid hy0
 have HBEL:=Lib.hid hbel1
 clear hb1 hl0 hy0 hbel1 hA0
 go_wp2_with (first | (refine wp_loadAtG rfl 23 (.tmp 1) rfl _ _ _ rfl hg1 Tryz.underlying23 rfl (by kernel_rfl) ?_))
 obtain ⟨b,hb⟩:∃ b,b = w1.heap.size:=⟨_,rfl⟩
 have ST0:Hid (Aw2S b 0 w ((((w1.alloc (.cells #[.int .i64 1,.int .i64 9] 3)).alloc (.cells #[.int .i64 0,.string nmA] 92)).alloc (.cells (flA b 0) 90)).alloc (.cells (plAr b) 27))):=by
  have e1:Below w1.heap.size w1 (w1.alloc (.cells #[.int .i64 1,.int .i64 9] 3)):=(Below.refl _ _).alloc (Nat.le_refl _) _
  have e4:Below w1.heap.size w1 ((((w1.alloc (.cells #[.int .i64 1,.int .i64 9] 3)).alloc (.cells #[.int .i64 0,.string nmA] 92)).alloc (.cells (flA b 0) 90)).alloc (.cells (plAr b) 27)) :=
   (((e1.alloc (by simp) _).alloc (by simp;omega) _).alloc (by simp;omega) _)
  refine ⟨HG1.out.below e4 hs1,?_,?_,?_,?_,HBEL.out.trans (e4.mono HBEL.out.size),by omega⟩
  ·have:=(((At.new w1 3 #[.int .i64 1,.int .i64 9]).alloc (.cells #[.int .i64 0,.string nmA] 92)).alloc (.cells (flA b 0) 90)).alloc (.cells (plAr b) 27)
   rwa [← hb] at this
  ·have:=((At.new (w1.alloc (.cells #[.int .i64 1,.int .i64 9] 3)) 92 #[.int .i64 0,.string nmA]).alloc (.cells (flA b 0) 90)).alloc (.cells (plAr b) 27)
   rwa [World.size_alloc,← hb] at this
  ·have:=(At.new ((w1.alloc (.cells #[.int .i64 1,.int .i64 9] 3)).alloc (.cells #[.int .i64 0,.string nmA] 92)) 90 (flA b 0)).alloc (.cells (plAr b) 27)
   rwa [World.size_alloc,World.size_alloc,← hb] at this
  ·have:=At.new (((w1.alloc (.cells #[.int .i64 1,.int .i64 9] 3)).alloc (.cells #[.int .i64 0,.string nmA] 92)).alloc (.cells (flA b 0) 90)) 27 (plAr b)
   rwa [World.size_alloc,World.size_alloc,World.size_alloc,← hb] at this
 have HL1:Hid (RArr ((((w1.alloc (.cells #[.int .i64 1,.int .i64 9] 3)).alloc (.cells #[.int .i64 0,.string nmA] 92)).alloc (.cells (flA b 0) 90)).alloc (.cells (plAr b) 27)) q0 32 256 n (bkF ((plA 0 0).img xA))):=(((HL0.out.alloc _).alloc _).alloc _).alloc _
 have hq0b:q0 < b:=by rw [hb];exact HL0.out.lt
 have HQ0:Hid (w.heap.size ≤ q0):=by show _ ≤ _;rw [World.size_alloc] at hq0;omega
 subst hb
 clear hb2 hb3 hb4 hg1 HG1 HL0 HBEL hs1
 refine (ST0.out.img (.inl rfl) HN.out).mono ?_
 obtain ⟨b,hb⟩:∃ b,b = w1.heap.size:=⟨_,rfl⟩
 rintro e w2 ⟨hb2,q1,rfl,hq1,hl1,hy1⟩
 have ST1:=Lib.hid (ST0.out.below hb2)
 have HL2:=Lib.hid (HL1.out.below hb2)
 have HM:=Lib.hid hl1
 have HY1:=Lib.hid hy1
 have HQ1:=Lib.hid hq1
 clear ST0 HL1 hb2 hl1 hy1 hq1
 rw [← hb] at ST1 hq0b ⊢
 clear hb
 have hn9:n ≤ 2048:=by have:=HN.out;omega
 have HT2:Hid (Tab w2):=HT.out.below ST1.out.bel (Nat.le_refl _)
 go_wp2_with fail
 refine (ckOwners_any (.slice (some ⟨q1,0,none⟩) n n) n ((plA 1 0).img xA) HY1.out (by omega) w2 HT2.out (imv_of HM.out)).mono ?_
 rintro e w3 ⟨hb3,hO⟩
 have hex1:(Im.of ((plA 1 0).img xA) n).exam = (0,o4A):=by rw [HN.out];exact awExam1
 have hex0:(Im.of ((plA 0 0).img xA) n).exam = (0,fun _ => 0) ∧ (Im.of ((plA 0 0).img xA) n).o = 0:=by rw [HN.out];exact awExam0 0
 rcases hO with ⟨h0,-⟩ | ⟨-,-,g2,rfl,hg2,ho⟩
 ·exact absurd (by rw [hex1]) h0
 rw [hex1] at ho
 obtain ⟨L0,hL0⟩:∃ L0,L0 = (plA 0 0).img xA:=⟨_,rfl⟩
 obtain ⟨L1,hL1⟩:∃ L1,L1 = (plA 1 0).img xA:=⟨_,rfl⟩
 rw [← hL0] at HL2 hex0 HY0
 rw [← hL1] at HM hex1 HY1
 have ST2:Hid (Aw3S b 0 q0 q1 g2 n L0 L1 w w3):=⟨ST1.out.below hb3,HL2.out.below hb3,HM.out.below hb3,ho⟩
 have HX0:=Lib.hid hex0
 have HX1:=Lib.hid hex1
 have HLL:=Lib.hid hL0
 clear ST1 HL2 HM hb3 ho hex0 hex1 hL0 hL1 HQ1 hg2 HT2 hq0
 have HTA:Hid (∀ W,Below w.heap.size w W → Tab W):=fun W h => HT.out.below h (Nat.le_refl _)
 have hmk:=fun W => run_mkrow (P:=Tryz.prog) 29 32 (bval fun _ => 0) 256 256 Tryz.underlying29 info_block3 .i64 .i64 n (by omega) (by omega) W
 have hn1:(n:Int) = 66:=by have:=HN.out;omega
 have HN1:=Lib.hid hn1
 clear hn1
 go_wp2_with fail
 refine (aw_ruleN (HTA.out _ ST2.out.s.bel)).mono ?_
 rintro e w4 ⟨rfl,hb4⟩
 have ST3:=Lib.hid (ST2.out.below hb4)
 clear ST2 hb4
 go_wp2_with fail
 have hex1:(Im.of L0 n).exam.1 = 0:=by rw [HX0.out.1]
 have hex2:(Im.of L1 n).exam.1 = 0:=by rw [HX1.out]
 have hez:(Im.of (fun _ _ => 0) n).exam.1 = 1:=by rw [HN.out];exact awExamZ
 have HE1:=Lib.hid hex1
 have HE2:=Lib.hid hex2
 have HEZ:=Lib.hid hez
 clear hex1 hex2 hez hmk
 have hbz:Below w4.heap.size w4 (w4.alloc (.cells (madeCells (bval fun _ => 0).cells (n * 256)) 32)):=(Below.refl _ _).alloc (Nat.le_refl _) _
 have ST4:=Lib.hid (ST3.out.below hbz)
 have HRZ:Hid (RArr (w4.alloc (.cells (madeCells (bval fun _ => 0).cells (n * 256)) 32)) w4.heap.size 32 256 n (bkF fun _ _ => 0)):=RArr.made (m:=256) w4 (Ks .u8 256 (fun _ => 0)).toArray (by simp [Ks]) (by omega) n 32
 clear ST3 hbz
 refine (aw_rule (L:=fun _ _ => 0) (k:=1) (by omega) (fun _ => zero_byt) HEZ.out (HTA.out _ ST4.out.s.bel) HRZ.out).mono ?_
 rintro e w5 ⟨rfl,hb5⟩
 have ST5:=Lib.hid (ST4.out.below hb5)
 clear ST4 hb5 HRZ
 go_wp2_with fail
 refine (aw_rule (k:=0) (by omega) HY0.out HE1.out (HTA.out _ ST5.out.s.bel) ST5.out.l).mono ?_
 rintro e w6 ⟨rfl,hb6⟩
 have ST6:=Lib.hid (ST5.out.below hb6)
 clear ST5 hb6
 go_wp2_with fail
 refine (ckQuiet_any (.slice (some ⟨q0,0,none⟩) n n) n L0 HY0.out (by omega) w6 (HTA.out _ ST6.out.s.bel) (imv_of ST6.out.l)).mono ?_
 rintro e w7 ⟨rfl,hb7⟩
 have ST7:=Lib.hid (ST6.out.below hb7)
 clear ST6 hb7
 have hqt:decide ((Im.of L0 n).exam.1 = 0 ∧ (Im.of L0 n).o = 0) = true:=decide_eq_true ⟨HE1.out,HX0.out.2⟩
 rw [hqt]
 clear hqt
 go_wp2_with fail
 refine (aw_rule (k:=0) (by omega) HY1.out HE2.out (HTA.out _ ST7.out.s.bel) ST7.out.m).mono ?_
 rintro e w8 ⟨rfl,hb8⟩
 have ST8:=Lib.hid (ST7.out.below hb8)
 clear ST7 hb8
 go_wp2_with fail
 have hcl:∀ t,cntB (fun b => o4A b == 2) t ≤ t:=fun t => cntB_le _ t
 have HCL:=Lib.hid hcl
 clear hcl
 go_loopw [6,7] (fun c u wr => ∃ t:Nat,t ≤ n ∧ u = .int .i64 (t:Int) ∧ c = .int .i64 ((cntB (fun b => o4A b == 2) t:Nat):Int) ∧ Aw3S b 0 q0 q1 g2 n L0 L1 w wr) (fun _ u _ => n - (intOf u).toNat)
 case atStart => exact ⟨0,Nat.zero_le _,rfl,rfl,ST8.out⟩
 case round =>
  clear ST8
  obtain ⟨t,ht,rfl,rfl,st⟩:=hrel
  have ST:=Lib.hid st
  clear st
  have hct:=HCL.out t
  have HCS:Hid (cntB (fun b => o4A b == 2) (t + 1) = cntB (fun b => o4A b == 2) t + if (o4A t == 2) = true then 1 else 0):=rfl
  obtain ⟨ct,hc⟩:∃ ct,ct = cntB (fun b => o4A b == 2) t:=⟨_,rfl⟩
  rw [← hc] at hct HCS ⊢
  have HCC:=Lib.hid hc
  clear hc
  by_cases hlt:t < n
  ·have hlt':(t:Int) < (n:Int):=by omega
   have co:wr.cell? ⟨g2,t,none⟩ = some (.int .i64 ((o4A t:Nat):Int)):=by
    have:=ST.out.o.seg t hlt 0 _ rfl
    rwa [Nat.zero_add,Nat.mul_one,Nat.add_zero] at this
   obtain ⟨ov,hov⟩:∃ ov,ov = o4A t:=⟨_,rfl⟩
   rw [← hov] at co HCS
   clear hov
   by_cases h2:ov = 2
   ·subst h2
    have HC2:Hid (cntB (fun b => o4A b == 2) (t + 1) = ct + 1):=HCS.out
    go_wp2_with fail
    go_roundw
    case rel => first | exact ⟨t + 1,by omega,by go_num,by rw [HC2.out];go_num,ST.out⟩ | ((repeat apply Exists.intro);refine ⟨?_,rfl⟩;exact ⟨t + 1,by omega,by go_num,by rw [HC2.out];go_num,ST.out⟩)
    case measure => simp [intOf];omega
   ·have q2:((ov:Int) == 2) = false:=by simp;omega
    have HC2:Hid (cntB (fun b => o4A b == 2) (t + 1) = ct):=by show _ = _;rw [HCS.out,if_neg (by simpa using h2)];rfl
    go_wp2_with fail
    go_roundw
    case rel => first | exact ⟨t + 1,by omega,by go_num,by rw [HC2.out],ST.out⟩ | ((repeat apply Exists.intro);refine ⟨?_,rfl⟩;exact ⟨t + 1,by omega,by go_num,by rw [HC2.out],ST.out⟩)
    case measure => simp [intOf];omega
  ·obtain rfl:t = n:=by omega
   have h3:ct = 3:=by rw [HCC.out,HN.out];exact awCount
   subst h3
   have hg:=ST.out.s.g
   go_wp2_with (first | (refine wp_loadAtG rfl 23 (.tmp 1) rfl _ _ _ rfl hg Tryz.underlying23 rfl (by kernel_rfl) ?_))
   have hst:Calls Tryz.prog 21 #[gval 1 24 8 40,.int .i64 0] wr fun e w' => e = .returned (.tuple #[.int .i64 42,.bool true]) ∧ Below wr.heap.size wr w':=geoStart_yes 1 24 8 40 0 mayA (by decide) wr
   refine hst.mono ?_
   rintro e w9 ⟨rfl,hb9⟩
   have ST9:=Lib.hid (ST.out.below hb9)
   have h42:(42:Int) < (t:Int):=by have:=HN.out;omega
   clear ST hb9 hg hst HCS HCC HCL
   go_wp2_with fail
   have hbit:bt (L0 42) 0 = true:=by rw [HLL.out,img0,LA_42,bt_bZ];rfl
   refine (bitClearA_any q0 t 42 0 (by omega) (by omega) (by decide) L0 (HY0.out 42) w9 ST9.out.l).mono ?_
   rintro e w10 hcl
   rcases hcl with ⟨h,-⟩ | ⟨-,rfl,hl10,ho10⟩
   ·rw [hbit] at h;cases h
   obtain ⟨cq,hcq,-⟩:=ST9.out.l.blk
   have hLC:updN L0 42 (bZ (clrB (bt (L0 42)) 0)) = LC:=by rw [HLL.out,img0];rfl
   rw [hLC] at hl10
   have ST10:Hid (Aw2S b 0 w w10):=by
    have h:=ST9.out.s
    exact ⟨h.g.only ho10 (At.unlike h.g hcq (by decide)),h.i.only ho10 (At.unlike h.i hcq (by decide)),h.n.only ho10 (At.unlike h.n hcq (by decide)),h.f.only ho10 (At.unlike h.f hcq (by decide)),h.p.only ho10 (At.unlike h.p hcq (by decide)),h.bel.trans (ho10.below HQ0.out),h.lb⟩
   have HLC:=Lib.hid hl10
   clear hbit hl10 ho10 hcq hLC ST9
   have c4:w10.cell? ⟨b + 3,4,none⟩ = some (.slice (some ⟨b + 2,0,none⟩) 1 1):=ST10.out.p.cell (i:=4) rfl
   have c5:w10.cell? ⟨b + 2,5,none⟩ = some (.int .i64 0):=ST10.out.f.cell (i:=5) rfl
   have f5:w10.frozen? ⟨b + 2,5,none⟩ = false:=soft_of_heap ST10.out.f 5
   have ho11:Only (b + 2) w10 (w10.setCell ⟨b + 2,5,none⟩ (.int .i64 1)):=Only.setCell w10 ⟨b + 2,5,none⟩ _
   have ST11:Hid (Aw2S b 1 w (w10.setCell ⟨b + 2,5,none⟩ (.int .i64 1))):=by
    have h:=ST10.out
    have hf:=h.f.setCell 5 (.int .i64 1)
    exact ⟨h.g.only ho11 (At.unlike h.g h.f (by decide)),h.i.only ho11 (At.unlike h.i h.f (by decide)),h.n.only ho11 (At.unlike h.n h.f (by decide)),hf,h.p.only ho11 (At.unlike h.p h.f (by decide)),h.bel.trans (ho11.below (by have:=h.lb;omega)),h.lb⟩
   have HLC2:Hid (RArr (w10.setCell ⟨b + 2,5,none⟩ (.int .i64 1)) q0 32 256 t (bkF LC)):=HLC.out.only ho11 (by omega)
   clear ST10 HLC ho11
   go_wp2_with fail
   have he3:(Im.of LC t).exam.1 = 3:=by rw [HN.out];exact awExam3
   have HE3:=Lib.hid he3
   clear he3 c4 c5 f5
   refine (aw_rule (k:=3) (by omega) LC_byt HE3.out (HTA.out _ ST11.out.bel) HLC2.out).mono ?_
   rintro e w12 ⟨rfl,hb12⟩
   have ST12:=Lib.hid (ST11.out.below hb12)
   clear ST11 hb12 HLC2
   have hp:=ST12.out.p
   go_wp2_with (first | (refine wp_loadAtG rfl 27 (.tmp 3) rfl _ _ _ rfl hp Tryz.underlying27 rfl (by kernel_rfl) ?_))
   refine (ST12.out.img (.inr rfl) HN.out).mono ?_
   rintro e w13 ⟨hb13,q3,rfl,hq3,hl3,hy3⟩
   have ST13:=Lib.hid (ST12.out.below hb13)
   have HL3:=Lib.hid hl3
   have HY3:=Lib.hid hy3
   clear ST12 hb13 hl3 hy3 hq3 hp
   go_wp2_with fail
   have he10:(Im.of ((plA 1 1).img xA) t).exam.1 = 10:=by rw [HN.out];exact awExam10
   refine (aw_rule (k:=10) (by omega) HY3.out he10 (HTA.out _ ST13.out.bel) HL3.out).mono ?_
   rintro e w14 ⟨rfl,hb14⟩
   have HF:Hid (Below w.heap.size w w14):=ST13.out.bel.trans (hb14.mono ST13.out.bel.size)
   clear ST13 hb14 he10
   go_wp2_with fail
   go_ret
   exact ⟨rfl,HF.out⟩
theorem OldR.wide {B B':Nat} {W:World} {a:Option Addr} {m n:Nat} {f:Nat → List Value} (h:OldR B W a m n f) (hB:B ≤ B'):OldR B' W a m n f:=⟨h.1,fun b off e hn => Nat.lt_of_lt_of_le (h.2 b off e hn) hB⟩
theorem PlnR.wide {B B':Nat} {d:PlAd} {P:PlanD} {W:World} (h:PlnR B d P W) (hB:B ≤ B'):PlnR B' d P W:=⟨h.f.wide hB,fun i hi => (h.b i hi).wide hB,fun i hi => (h.n i hi).wide hB,h.c.wide hB⟩
theorem At.plan {w:World} (G S I J:Int) (d:PlAd) (P:PlanD):At (w.alloc (.cells (plRow G S I J d P) 27)) w.heap.size 27 (plRow G S I J d P):=At.new _ _ _
end Go.Proofs.YtnbmmhoofilmfaaGreatDoor
