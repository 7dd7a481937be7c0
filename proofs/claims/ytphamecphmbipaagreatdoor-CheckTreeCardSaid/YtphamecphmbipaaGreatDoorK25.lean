/- Texts of this claim, merged. -/
import Derived.Test.YtphamecphmbipaaGreatDoorK17
set_option maxRecDepth 100000
set_option maxHeartbeats 16000000

namespace Go.Proofs.YtphamecphmbipaaGreatDoor
open Go.RowKit
set_option linter.unusedVariables false
theorem rInodes5_any (g s i j:Nat) (hm:mayG g s i j = true) (hgi:g * i ≤ 256) (w:World):Calls Tryz.prog 28 #[gval g s i j] w fun e w' => e = .returned (.int .i64 ((g * i:Nat):Int)) ∧ Below w.heap.size w w':=by
 have hA:=At.new w 23 (gcells g s i j)
 have HL:Hid (Below w.heap.size w (w.alloc (.cells (gcells g s i j) 23))):=(Below.refl _ _).alloc (Nat.le_refl _) _
 have HM:=Lib.hid hm
 obtain ⟨N,hN⟩:∃ N:Int,N = (g:Int) * (i:Int):=⟨_,rfl⟩
 have e:((g * i:Nat):Int) = (g:Int) * (i:Int):=Int.natCast_mul _ _
 have hN9:0 ≤ (g:Int) * (i:Int) ∧ (g:Int) * (i:Int) ≤ 256:=by omega
 have HE:=Lib.hid e
 clear hm e hgi hN
 go_enter Tryz.func28,Tryz.ntmps28
 go_wp2_with (first | (refine wp_loadAtG rfl 23 (.tmp 1) rfl _ _ _ rfl hA Tryz.underlying23 rfl (by kernel_rfl) ?_))
 refine (rMay5_any g s i j _).mono ?_
 rintro e w1 ⟨rfl,hb1⟩
 rw [HM.out]
 have hA1:=hA.below hb1 hA.lt
 have HL1:=Lib.hid (HL.out.trans (hb1.mono HL.out.size))
 have c0:w1.cell? ⟨w.heap.size,0,none⟩ = some (.int .i64 (g:Int)):=hA1.cell (i:=0) rfl
 have c2:w1.cell? ⟨w.heap.size,2,none⟩ = some (.int .i64 (i:Int)):=hA1.cell (i:=2) rfl
 clear hA HL hb1 hA1
 go_wp2_with fail
 go_ret
 exact ⟨by rw [HE.out];rfl,HL1.out⟩
theorem rNumber5_any (g s i j γ b:Nat) (hm:mayG g s i j = true) (hγ:γ < g) (hb:b < i) (hg4:g ≤ 4) (hi9:i ≤ 64) (w:World):Calls Tryz.prog 108 #[gval g s i j,.int .i64 (γ:Int),.int .i64 (b:Int)] w fun e w' => e = .returned (.int .i64 ((1 + γ * i + b:Nat):Int)) ∧ Below w.heap.size w w':=by
 have hA:=At.new w 23 (gcells g s i j)
 have HL:Hid (Below w.heap.size w (w.alloc (.cells (gcells g s i j) 23))):=(Below.refl _ _).alloc (Nat.le_refl _) _
 have HM:=Lib.hid hm
 have e:((1 + γ * i + b:Nat):Int) = 1 + (γ:Int) * (i:Int) + (b:Int):=by rw [Int.natCast_add,Int.natCast_add,Int.natCast_mul];rfl
 have h1:γ * i ≤ 4 * 64:=Nat.mul_le_mul (by omega) hi9
 have h2:((γ * i:Nat):Int) = (γ:Int) * (i:Int):=Int.natCast_mul _ _
 have hN9:0 ≤ (γ:Int) * (i:Int) ∧ (γ:Int) * (i:Int) ≤ 256:=by omega
 have HE:=Lib.hid e
 have d1:decide ((γ:Int) < 0) = false:=decide_eq_false (by omega)
 have d2:decide ((g:Int) ≤ (γ:Int)) = false:=decide_eq_false (by omega)
 have d3:decide ((b:Int) < 0) = false:=decide_eq_false (by omega)
 have d4:decide ((i:Int) ≤ (b:Int)) = false:=decide_eq_false (by omega)
 have d2':decide (g ≤ γ) = false:=decide_eq_false (by omega)
 have d4':decide (i ≤ b) = false:=decide_eq_false (by omega)
 clear hm e h1 h2
 go_enter Tryz.func108,Tryz.ntmps108
 go_wp2_with (first | (refine wp_loadAtG rfl 23 (.tmp 3) rfl _ _ _ rfl hA Tryz.underlying23 rfl (by kernel_rfl) ?_))
 refine (rMay5_any g s i j _).mono ?_
 rintro e w1 ⟨rfl,hb1⟩
 rw [HM.out]
 have hA1:=hA.below hb1 hA.lt
 have HL1:=Lib.hid (HL.out.trans (hb1.mono HL.out.size))
 have c0:w1.cell? ⟨w.heap.size,0,none⟩ = some (.int .i64 (g:Int)):=hA1.cell (i:=0) rfl
 have c2:w1.cell? ⟨w.heap.size,2,none⟩ = some (.int .i64 (i:Int)):=hA1.cell (i:=2) rfl
 clear hA HL hb1 hA1
 go_wp2_with fail
 go_ret
 exact ⟨by rw [HE.out];rfl,HL1.out⟩
structure ThR (W:World) (s t j n b:Nat):Prop where
 l:RSeg W b 0 4 n (thF s t j)
 lt:b < W.heap.size
theorem ThR.below {W W':World} {s t j n b:Nat} (h:ThR W s t j n b) (hb:Below W.heap.size W W'):ThR W' s t j n b:=⟨RSeg.below h.l hb h.lt,Nat.lt_of_lt_of_le h.lt hb.size⟩
theorem ThR.cells {W:World} {s t j n b:Nat} (h:ThR W s t j n b) {p:Nat} (hp:p < n) {K A B C:Int} (he:thF s t j p = tv K A B C) :
  W.cell? ⟨b,p * 4,none⟩ = some (.int .u8 K) ∧ W.cell? ⟨b,p * 4 + 1,none⟩ = some (.int .i64 A) ∧ W.cell? ⟨b,p * 4 + 2,none⟩ = some (.int .i64 B) ∧ W.cell? ⟨b,p * 4 + 3,none⟩ = some (.int .i64 C):=by
 have h0:=h.l p hp 0 _ (by rw [he];rfl)
 have h1:=h.l p hp 1 _ (by rw [he];rfl)
 have h2:=h.l p hp 2 _ (by rw [he];rfl)
 have h3:=h.l p hp 3 _ (by rw [he];rfl)
 rw [Nat.zero_add] at h0 h1 h2 h3
 exact ⟨h0,h1,h2,h3⟩
theorem rAll_seg (g s i j:Nat) (hm:mayG g s i j = true) (w:World):Calls Tryz.prog 57 #[gval g s i j] w fun e w' => Below w.heap.size w w' ∧ ∃ b cap,e = .returned (.slice (some ⟨b,0,none⟩) (2 + j + g * s) cap) ∧ ThR w' s (i / 4) j (2 + j + g * s) b ∧ 2 + j + g * s ≤ cap ∧ cap ≤ maxLen:=by
 refine (rAll_any g s i j w).mono ?_
 rintro e w' ⟨hb,h⟩
 refine ⟨hb,?_⟩
 rcases h with ⟨h,_⟩ | ⟨_,v,rfl,hv⟩
 ·rw [hm] at h;cases h
 simp only [Int.toNat_natCast] at hv
 obtain ⟨b,cap,rfl,h1,h2,h3,h4⟩:=RMine.form' hv (by omega)
 exact ⟨b,cap,rfl,⟨RMine.seg hv (thF_len _ _ _),h2⟩,h3,h4⟩
theorem thF_start {s t j k p:Nat} (hs:1 ≤ s) (hp:p < 2 + j + k * s):∃ K A B C:Int,thF s t j p = tv K A B C ∧ ((K == 4) = false ∨ ((K == 4) = true ∧ (A == (k:Int)) = false)):=by
 unfold thF
 split
 ·exact ⟨_,_,_,_,rfl,.inl rfl⟩
 split
 ·exact ⟨_,_,_,_,rfl,.inl rfl⟩
 split
 ·exact ⟨_,_,_,_,rfl,.inl rfl⟩
 have hlt:(p - (2 + j)) / s < k:=(Nat.div_lt_iff_lt_mul (by omega)).2 (by omega)
 split
 ·exact ⟨_,_,_,_,rfl,.inr ⟨rfl,by rw [beq_eq_false_iff_ne];omega⟩⟩
 split
 ·exact ⟨_,_,_,_,rfl,.inl rfl⟩
 split
 ·exact ⟨_,_,_,_,rfl,.inl rfl⟩
 ·exact ⟨_,_,_,_,rfl,.inl rfl⟩
theorem rStart5_any (g s i j k:Nat) (hm:mayG g s i j = true) (hk:k < g) (w:World):Calls Tryz.prog 69 #[gval g s i j,.int .i64 (k:Int)] w fun e w' => e = .returned (.tuple #[.int .i64 ((2 + j + k * s:Nat):Int),.bool true]) ∧ Below w.heap.size w w':=by
 obtain ⟨h1,h2,h3,h4,h5,h6,h7,h8,h9,h10,h11⟩:=mayN hm
 have hA:=At.new w 23 (gcells g s i j)
 have HL:Hid (Below w.heap.size w (w.alloc (.cells (gcells g s i j) 23))):=(Below.refl _ _).alloc (Nat.le_refl _) _
 have hks:(k + 1) * s ≤ g * s:=Nat.mul_le_mul_right _ hk
 rw [Nat.succ_mul] at hks
 have HST:Hid (∀ p,p < 2 + j + k * s → ∃ K A B C:Int,thF s (i / 4) j p = tv K A B C ∧ ((K == 4) = false ∨ ((K == 4) = true ∧ (A == (k:Int)) = false))):=fun p hp => thF_start (by omega) hp
 have HAT:Hid (thF s (i / 4) j (2 + j + k * s) = tv 4 (k:Int) 0 0):=by
  have:=thF_at s (i / 4) j k (a:=0) (by omega)
  rw [Nat.add_zero,if_pos rfl] at this
  exact this
 have HM:=Lib.hid hm
 obtain ⟨T,hT⟩:∃ T,T = 2 + j + k * s:=⟨_,rfl⟩
 obtain ⟨n,hn⟩:∃ n,n = 2 + j + g * s:=⟨_,rfl⟩
 have hTn:T < n:=by omega
 have hn9:n ≤ 2048:=by omega
 rw [← hT] at HST HAT ⊢
 have HNN:=Lib.hid hn
 clear hm hks hT hn h11
 go_enter Tryz.func69,Tryz.ntmps69
 go_wp2_with (first | (refine wp_loadAtG rfl 23 (.tmp 2) rfl _ _ _ rfl hA Tryz.underlying23 rfl (by kernel_rfl) ?_))
 refine (rAll_seg g s i j HM.out _).mono ?_
 rintro e w1 ⟨hb1,b,cap,rfl,hth,hcap,hcm⟩
 have HL1:=Lib.hid (HL.out.trans (hb1.mono HL.out.size))
 have HTH:=Lib.hid hth
 rw [← HNN.out] at HTH ⊢
 clear hA HL hb1 hth hcap hcm
 go_wp2_with fail
 go_loop [7] (fun u => ∃ p:Nat,p ≤ T ∧ u = .int .i64 (p:Int)) (fun u => n - (intOf u).toNat)
 case atStart => exact ⟨0,by omega,rfl⟩
 case round =>
  obtain ⟨p,hp,rfl⟩:=hrel
  have hpn:(p:Int) < (n:Int):=by omega
  by_cases hpT:p < T
  ·obtain ⟨K,A,B,C,he,hc⟩:=HST.out p hpT
   obtain ⟨c0,c1,_,_⟩:=HTH.out.cells (by omega) he
   rcases hc with q0 | ⟨q0,q1⟩
   ·clear he
    go_wp2_with fail
    go_round
    case rel => exact ⟨p + 1,by omega,by go_num⟩
    case measure => simp [intOf];omega
   ·clear he
    go_wp2_with fail
    go_round
    case rel => exact ⟨p + 1,by omega,by go_num⟩
    case measure => simp [intOf];omega
  ·obtain rfl:p = T:=by omega
   obtain ⟨c0,c1,_,_⟩:=HTH.out.cells hTn HAT.out
   clear hpT
   go_wp2_with fail
   refine bodyPost_ret (results_tmp2 rfl _ _ _) rfl ?_
   exact ⟨rfl,HL1.out⟩
theorem rWhat5_any (g s i j b:Nat) (hm:mayG g s i j = true) (hb:b < 2 + j + g * s) (K A B C:Int) (he:thF s (i / 4) j b = tv K A B C) (w:World):Calls Tryz.prog 144 #[gval g s i j,.int .i64 (b:Int)] w fun e w' => e = .returned (.tuple #[.int .u8 K,.int .i64 A,.int .i64 B]) ∧ Below w.heap.size w w':=by
 obtain ⟨h1,h2,h3,h4,h5,h6,h7,h8,h9,h10,h11⟩:=mayN hm
 have hA:=At.new w 23 (gcells g s i j)
 have HL:Hid (Below w.heap.size w (w.alloc (.cells (gcells g s i j) 23))):=(Below.refl _ _).alloc (Nat.le_refl _) _
 have HM:=Lib.hid hm
 have HE:=Lib.hid he
 clear hm he
 go_enter Tryz.func144,Tryz.ntmps144
 go_wp2_with (first | (refine wp_loadAtG rfl 23 (.tmp 2) rfl _ _ _ rfl hA Tryz.underlying23 rfl (by kernel_rfl) ?_))
 refine (rAll_seg g s i j HM.out _).mono ?_
 rintro e w1 ⟨hb1,q,cap,rfl,hth,hcap,hcm⟩
 have HL1:=Lib.hid (HL.out.trans (hb1.mono HL.out.size))
 obtain ⟨n,hn⟩:∃ n,n = 2 + j + g * s:=⟨_,rfl⟩
 have hn9:n ≤ 2048:=by omega
 rw [← hn] at hth hb ⊢
 have d1:decide ((b:Int) < 0) = false:=decide_eq_false (by omega)
 have d2:decide ((n:Int) ≤ (b:Int)) = false:=decide_eq_false (by omega)
 have d2':decide (n ≤ b) = false:=decide_eq_false (by omega)
 have hbn:(b:Int) < (n:Int):=by omega
 have HTH:=Lib.hid hth
 clear hA HL hb1 hth hn h11 hcap hcm
 go_wp2_with fail
 refine wp_region_S (fun W => ThR W s (i / 4) j n q ∧ Below w.heap.size w W) (by kernel_rfl) (by kernel_rfl) ⟨HTH.out.below ⟨rfl,rfl,rfl,Nat.le_refl _,fun _ _ => rfl⟩,HL1.out.drew⟩ ?_
 clear HTH HL1
 intro hne
 have c0:∀ y:InW (fun W => ThR W s (i / 4) j n q ∧ Below w.heap.size w W),y.W.cell? ⟨q,b * 4,none⟩ = some (.int .u8 K):=fun y => (y.h.1.cells hb HE.out).1
 have c1:∀ y:InW (fun W => ThR W s (i / 4) j n q ∧ Below w.heap.size w W),y.W.cell? ⟨q,b * 4 + 1,none⟩ = some (.int .i64 A):=fun y => (y.h.1.cells hb HE.out).2.1
 have c2:∀ y:InW (fun W => ThR W s (i / 4) j n q ∧ Below w.heap.size w W),y.W.cell? ⟨q,b * 4 + 2,none⟩ = some (.int .i64 B):=fun y => (y.h.1.cells hb HE.out).2.2.1
 repeat (first | go_big_quiet_skip | (go_big_quiet_want;go_big_quiet_op;go_big_quiet_on))
 refine wpQuiet_nil ?_
 intro w5 h5
 have HB:=Lib.hid h5.out.2
 clear h5 hne c0 c1 c2
 go_wp2_with fail
 refine bodyPost_ret (results_tmp3 rfl _ _ _) rfl ?_
 exact ⟨rfl,HB.out⟩
theorem thF_ino {s t j i γ r p T:Nat} (hs:1 ≤ s) (hi:i = 4 * t) (hr:r < i) (hT:T = 1 + γ * i + r) (hp:p < 2 + j + γ * s + (2 + r / 4)) (hrs:2 + r / 4 < s) (hγ:γ ≤ 4) (hi9:i ≤ 64):∃ K A B C:Int,thF s t j p = tv K A B C ∧ ((K == 6) = false ∨ ((K == 6) = true ∧ C + 4 ≤ (T:Int) ∧ 0 ≤ C)):=by
 unfold thF
 split
 ·exact ⟨_,_,_,_,rfl,.inl rfl⟩
 split
 ·exact ⟨_,_,_,_,rfl,.inl rfl⟩
 split
 ·exact ⟨_,_,_,_,rfl,.inl rfl⟩
 split
 ·exact ⟨_,_,_,_,rfl,.inl rfl⟩
 split
 ·exact ⟨_,_,_,_,rfl,.inl rfl⟩
 split
 ·rename_i h1 h2 h3 h4 h5 h6
  refine ⟨_,_,_,_,rfl,.inr ⟨rfl,?_,?_⟩⟩
  ·have hdm:=Nat.div_add_mod (p - (2 + j)) s
   have hml:=Nat.mod_lt (p - (2 + j)) (show 0 < s by omega)
   generalize (p - (2 + j)) % s = a at *
   generalize (p - (2 + j)) / s = q at *
   have hq:q ≤ γ:=by
    rcases Nat.lt_or_ge γ q with h | h
    ·have:(γ + 1) * s ≤ q * s:=Nat.mul_le_mul_right _ h
     rw [Nat.succ_mul] at this
     rw [Nat.mul_comm] at hdm
     omega
    ·exact h
   have e1:(q:Int) * (4 * (t:Int)) = ((q * i:Nat):Int):=by rw [hi,Int.natCast_mul,Int.natCast_mul];rfl
   rw [e1]
   by_cases hqe:q = γ
   ·subst hqe
    rw [Nat.mul_comm] at hdm
    omega
   ·have:(q + 1) * i ≤ γ * i:=Nat.mul_le_mul_right _ (by omega)
    rw [Nat.succ_mul] at this
    omega
  ·have e1:(0:Int) ≤ (((p - (2 + j)) / s:Nat):Int) * (4 * (t:Int)):=Int.mul_nonneg (Int.natCast_nonneg _) (by omega)
   generalize (((p - (2 + j)) / s:Nat):Int) * (4 * (t:Int)) = Q at *
   have h7:2 ≤ (p - (2 + j)) % s:=by omega
   generalize (p - (2 + j)) % s = a at *
   omega
 ·exact ⟨_,_,_,_,rfl,.inl rfl⟩
theorem rInode5_any (g s i j γ r:Nat) (hm:mayG g s i j = true) (hγ:γ < g) (hr:r < i) (w:World):Calls Tryz.prog 67 #[gval g s i j,.int .i64 ((1 + γ * i + r:Nat):Int)] w fun e w' => e = .returned (.tuple #[.int .i64 ((2 + j + γ * s + (2 + r / 4):Nat):Int),.int .i64 ((64 * (r % 4):Nat):Int),.bool true]) ∧ Below w.heap.size w w':=by
 obtain ⟨h1,h2,h3,h4,h5,h6,h7,h8,h9,h10,h11⟩:=mayN hm
 have hA:=At.new w 23 (gcells g s i j)
 have HL:Hid (Below w.heap.size w (w.alloc (.cells (gcells g s i j) 23))):=(Below.refl _ _).alloc (Nat.le_refl _) _
 have hks:(γ + 1) * s ≤ g * s:=Nat.mul_le_mul_right _ hγ
 rw [Nat.succ_mul] at hks
 have hgi:γ * i ≤ 4 * 64:=Nat.mul_le_mul (by omega) h6
 have HST:Hid (∀ p,p < 2 + j + γ * s + (2 + r / 4) → ∃ K A B C:Int,thF s (i / 4) j p = tv K A B C ∧ ((K == 6) = false ∨ ((K == 6) = true ∧ C + 4 ≤ ((1 + γ * i + r:Nat):Int) ∧ 0 ≤ C))):=fun p hp => thF_ino (by omega) (by omega) hr rfl hp (by omega) (by omega) h6
 have HAT:Hid (thF s (i / 4) j (2 + j + γ * s + (2 + r / 4)) = tv 6 (γ:Int) ((2 + r / 4:Nat):Int) ((1 + γ * i + 4 * (r / 4):Nat):Int)):=by
  have:=thF_at s (i / 4) j γ (a:=2 + r / 4) (by omega)
  rw [if_neg (by omega),if_neg (by omega),if_pos (by omega)] at this
  show _ = _
  rw [this]
  have e1:(γ:Int) * (4 * ((i / 4:Nat):Int)) = ((γ * i:Nat):Int):=by rw [Int.natCast_mul];congr 1;omega
  rw [e1]
  have e2:(1:Int) + ((γ * i:Nat):Int) + 4 * (((2 + r / 4:Nat):Int) - 2) = ((1 + γ * i + 4 * (r / 4):Nat):Int):=by omega
  rw [e2]
 have HR:Hid (64 * (((1 + γ * i + r:Nat):Int) - ((1 + γ * i + 4 * (r / 4):Nat):Int)) = ((64 * (r % 4):Nat):Int)):=by show _ = _;omega
 have HM:=Lib.hid hm
 clear hm
 obtain ⟨Z,hZ⟩:∃ Z,Z = 1 + γ * i + r:=⟨_,rfl⟩
 obtain ⟨D,hD⟩:∃ D,D = 1 + γ * i + 4 * (r / 4):=⟨_,rfl⟩
 have hDZ:D ≤ Z ∧ Z < D + 4 ∧ Z ≤ 1000:=by omega
 obtain ⟨T,hT⟩:∃ T,T = 2 + j + γ * s + (2 + r / 4):=⟨_,rfl⟩
 obtain ⟨n,hn⟩:∃ n,n = 2 + j + g * s:=⟨_,rfl⟩
 have hTn:T < n:=by omega
 have hn9:n ≤ 2048:=by omega
 rw [← hZ,← hT] at HST
 rw [← hT,← hD] at HAT
 rw [← hZ,← hD] at HR
 rw [← hT,← hZ]
 have HNN:=Lib.hid hn
 clear hks hT hn h11 hZ hD hgi
 go_enter Tryz.func67,Tryz.ntmps67
 go_wp2_with (first | (refine wp_loadAtG rfl 23 (.tmp 2) rfl _ _ _ rfl hA Tryz.underlying23 rfl (by kernel_rfl) ?_))
 refine (rAll_seg g s i j HM.out _).mono ?_
 rintro e w1 ⟨hb1,b,cap,rfl,hth,hcap,hcm⟩
 have HL1:=Lib.hid (HL.out.trans (hb1.mono HL.out.size))
 have HTH:=Lib.hid hth
 rw [← HNN.out] at HTH ⊢
 clear hA HL hb1 hth hcap hcm
 go_wp2_with fail
 go_loop [8] (fun u => ∃ p:Nat,p ≤ T ∧ u = .int .i64 (p:Int)) (fun u => n - (intOf u).toNat)
 case atStart => exact ⟨0,by omega,rfl⟩
 case round =>
  obtain ⟨p,hp,rfl⟩:=hrel
  have hpn:(p:Int) < (n:Int):=by omega
  by_cases hpT:p < T
  ·obtain ⟨K,A,B,C,he,hc⟩:=HST.out p hpT
   obtain ⟨c0,_,_,c3⟩:=HTH.out.cells (by omega) he
   rcases hc with q0 | ⟨q0,q1,q2⟩
   ·clear he
    go_wp2_with fail
    go_round
    case rel => exact ⟨p + 1,by omega,by go_num⟩
    case measure => simp [intOf];omega
   ·have d1:decide (C ≤ (Z:Int)) = true:=decide_eq_true (by omega)
    have d2:decide ((Z:Int) < C + 4) = false:=decide_eq_false (by omega)
    clear he
    go_wp2_with fail
    go_round
    case rel => exact ⟨p + 1,by omega,by go_num⟩
    case measure => simp [intOf];omega
  ·obtain rfl:p = T:=by omega
   obtain ⟨c0,_,_,c3⟩:=HTH.out.cells hTn HAT.out
   have d1:decide ((D:Int) ≤ (Z:Int)) = true:=decide_eq_true (by omega)
   have d2:decide ((Z:Int) < (D:Int) + 4) = true:=decide_eq_true (by omega)
   have d1':decide (D ≤ Z) = true:=decide_eq_true (by omega)
   have d2':decide (Z < D + 4) = true:=decide_eq_true (by omega)
   clear hpT
   go_wp2_with fail
   refine wp_region_S (fun W => ThR W s (i / 4) j n b ∧ Below w.heap.size w W) (by kernel_rfl) (by kernel_rfl) ⟨HTH.out.below ⟨rfl,rfl,rfl,Nat.le_refl _,fun _ _ => rfl⟩,HL1.out.drew⟩ ?_
   clear HTH HL1 c0 c3
   intro hne
   have c3:∀ y:InW (fun W => ThR W s (i / 4) j n b ∧ Below w.heap.size w W),y.W.cell? ⟨b,p * 4 + 3,none⟩ = some (.int .i64 (D:Int)):=fun y => (y.h.1.cells hTn HAT.out).2.2.2
   repeat (first | go_big_quiet_skip | (go_big_quiet_want;go_big_quiet_op;go_big_quiet_on))
   refine wpQuiet_nil ?_
   intro w5 h5
   have HB:=Lib.hid h5.out.2
   clear h5 hne c3
   go_wp2_with fail
   refine bodyPost_ret (results_tmp3 rfl _ _ _) rfl ?_
   exact ⟨by rw [← HR.out];rfl,HB.out⟩
theorem rHome5_any (g s i j γ r:Nat) (hm:mayG g s i j = true) (hγ:γ < g) (hr:r < i) (w:World):Calls Tryz.prog 66 #[gval g s i j,.int .i64 ((1 + γ * i + r:Nat):Int)] w fun e w' => e = .returned (.tuple #[.int .i64 (γ:Int),.int .i64 (r:Int),.bool true]) ∧ Below w.heap.size w w':=by
 obtain ⟨h1,h2,h3,h4,h5,h6,h7,h8,h9,h10,h11⟩:=mayN hm
 have hA:=At.new w 23 (gcells g s i j)
 have HL:Hid (Below w.heap.size w (w.alloc (.cells (gcells g s i j) 23))):=(Below.refl _ _).alloc (Nat.le_refl _) _
 have HM:=Lib.hid hm
 have HNE:Hid (∀ γ' r':Nat,γ' ≤ γ → r' < i → (γ' = γ → r' < r) → ((((1 + γ' * i + r':Nat):Int)) == ((1 + γ * i + r:Nat):Int)) = false):=fun γ' r' hg hr' hlt => by
  rw [beq_eq_false_iff_ne]
  by_cases e:γ' = γ
  ·subst e;have:=hlt rfl;omega
  ·have:(γ' + 1) * i ≤ γ * i:=Nat.mul_le_mul_right _ (by omega)
   rw [Nat.succ_mul] at this
   omega
 have HEQ:Hid (((((1 + γ * i + r:Nat):Int)) == ((1 + γ * i + r:Nat):Int)) = true):=by show _ = _;rw [beq_iff_eq]
 obtain ⟨Z,hZ⟩:∃ Z:Int,Z = ((1 + γ * i + r:Nat):Int):=⟨_,rfl⟩
 rw [← hZ] at HNE ⊢
 have HEQ:Hid ((((1 + γ * i + r:Nat):Int) == Z) = true):=by show _ = _;rw [hZ,beq_iff_eq]
 clear hm hZ h10 h11
 go_enter Tryz.func66,Tryz.ntmps66
 go_wp2_with (first | (refine wp_loadAtG rfl 23 (.tmp 2) rfl _ _ _ rfl hA Tryz.underlying23 rfl (by kernel_rfl) ?_))
 refine (rMay5_any g s i j _).mono ?_
 rintro e w1 ⟨rfl,hb1⟩
 rw [HM.out]
 have HA1:=Lib.hid (hA.below hb1 hA.lt)
 have HL1:=Lib.hid (HL.out.trans (hb1.mono HL.out.size))
 clear hA HL hb1
 go_wp2_with fail
 go_loopw [7,8] (fun u _ wr => ∃ p:Nat,p ≤ γ ∧ u = .int .i64 (p:Int) ∧ At wr w.heap.size 23 (gcells g s i j) ∧ Below w.heap.size w wr) (fun u _ _ => g - (intOf u).toNat)
 case atStart => exact ⟨0,by omega,rfl,HA1.out,HL1.out⟩
 case round =>
  clear HA1 HL1
  obtain ⟨p,hp,rfl,ha,hl⟩:=hrel
  have hpg:(p:Int) < (g:Int):=by omega
  have c0:wr.cell? ⟨w.heap.size,0,none⟩ = some (.int .i64 (g:Int)):=ha.cell (i:=0) rfl
  have HA:=Lib.hid ha
  have HL:=Lib.hid hl
  clear ha hl
  go_wp2_with fail
  clear c0
  go_loopw [8] (fun u wr => ∃ b:Nat,b ≤ i ∧ (p = γ → b ≤ r) ∧ u = .int .i64 (b:Int) ∧ At wr w.heap.size 23 (gcells g s i j) ∧ Below w.heap.size w wr) (fun u _ => i - (intOf u).toNat)
  case atStart => exact ⟨0,by omega,fun _ => by omega,rfl,HA.out,HL.out⟩
  case round =>
   clear HA HL
   obtain ⟨b,hb,hbr,rfl,ha,hl⟩:=hrel
   have c2:wr.cell? ⟨w.heap.size,2,none⟩ = some (.int .i64 (i:Int)):=ha.cell (i:=2) rfl
   by_cases hbi:b < i
   ·have hbi':(b:Int) < (i:Int):=by omega
    go_wp2_with (first | (refine wp_loadAtG rfl 23 (.tmp 2) rfl _ _ _ rfl ha Tryz.underlying23 rfl (by kernel_rfl) ?_))
    refine (rNumber5_any g s i j p b HM.out (by omega) hbi h2 h6 _).mono ?_
    rintro e w3 ⟨rfl,hb3⟩
    have HA:=Lib.hid (ha.below hb3 ha.lt)
    have HL:=Lib.hid (hl.trans (hb3.mono hl.size))
    clear ha hl hb3 c2
    by_cases hz:p = γ ∧ b = r
    ·obtain ⟨rfl,rfl⟩:=hz
     have q0:=HEQ.out
     obtain ⟨Y,hY⟩:∃ Y:Int,Y = ((1 + p * i + b:Nat):Int):=⟨_,rfl⟩
     rw [← hY] at q0 ⊢
     clear hY
     go_wp2_with fail
     refine bodyPost_ret (results_tmp3 rfl _ _ _) rfl ?_
     exact ⟨rfl,HL.out⟩
    ·have q0:=HNE.out p b hp hbi (fun e => by have:=hbr e;by_cases e2:b = r;exact absurd ⟨e,e2⟩ hz;omega)
     obtain ⟨Y,hY⟩:∃ Y:Int,Y = ((1 + p * i + b:Nat):Int):=⟨_,rfl⟩
     rw [← hY] at q0 ⊢
     clear hY
     go_wp2_with fail
     go_roundw
     case rel => exact ⟨b + 1,by omega,fun e => by have:=hbr e;by_cases e2:b = r;exact absurd ⟨e,e2⟩ hz;omega,by go_num,HA.out,HL.out⟩
     case measure => simp [intOf];omega
   ·obtain rfl:b = i:=by omega
    have hpγ:p ≠ γ:=fun e => by have:=hbr e;omega
    have HA:=Lib.hid ha
    have HL:=Lib.hid hl
    clear ha hl
    go_wp2_with fail
    go_roundw
    case rel => exact ⟨p + 1,by omega,by go_num,HA.out,HL.out⟩
    case measure => simp [intOf];omega
end Go.Proofs.YtphamecphmbipaaGreatDoor
