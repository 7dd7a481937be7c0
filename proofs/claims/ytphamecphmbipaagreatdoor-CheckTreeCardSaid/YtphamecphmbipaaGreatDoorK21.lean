/- Texts of this claim, merged. -/
import Derived.Test.YtphamecphmbipaaGreatDoorK16
namespace Go.Proofs.YtphamecphmbipaaGreatDoor
open Go.RowKit
set_option linter.unusedVariables false
theorem hd_seal {l:Nat → Int} (hl:Hvs l) {k:Nat} (hk:k < 126):hd (sealZ (hz l)) k = l k:=by
 unfold hd sealZ
 rw [g16_out _ _ _ _ _ (.inl (by omega))]
 exact g16_hz k (hl k)
theorem g32_seal {l:Nat → Int} (hl:Hvs l) {k:Nat} (hk:k + 1 < 126):g32 (sealZ (hz l)) (2 * k) = l k + 65536 * l (k + 1):=by
 unfold sealZ
 rw [g32_out _ _ _ _ _ (.inl (by omega))]
 exact g32_hz hl k
theorem hvs0:Hvs (fun _ => 0):=fun _ => ⟨Int.le_refl 0,by show (0:Int) < 65536;decide⟩
theorem supH_hvs {G S I J O:Int} (h:mayG G S I J = true) (hO:0 ≤ O ∧ O < 4294967296):Hvs (supH G S I J O):=by
 obtain ⟨b1,b2,b3,b4,b5,b6,b7,b8⟩:=geo_small h
 exact upd2_hvs (upd_hvs (upd_hvs (upd_hvs (upd_hvs (upd_hvs (upd_hvs (upd2_hvs hvs0 _ (by decide)) _ (by decide)) _ (by decide)) _ (by omega)) _ (by omega)) _ (by omega)) _ (by omega)) _ hO
theorem supOk_iff {G S I J O:Int}:supOk G S I J O = true ↔ mayG G S I J = true ∧ O ≤ nIn G S I J:=by unfold supOk;rw [Bool.and_eq_true,decide_eq_true_eq]
theorem descOk_iff {G S I J:Int} {n:Nat} {b i d:Nat → Int}:descOk G S I J n b i d = true ↔ mayG G S I J = true ∧ mayD G S I J n b i d = true:=by unfold descOk;rw [Bool.and_eq_true]
theorem supZ_yes {G S I J O:Int} (h:supOk G S I J O = true):supZ G S I J O = sealZ (hz (supH G S I J O)):=by unfold supZ;rw [if_pos h]
theorem descZ_yes {G S I J:Int} {n:Nat} {b i d:Nat → Int} (h:descOk G S I J n b i d = true):descZ G S I J n b i d = sealZ (hz (dH b i d n)):=by unfold descZ;rw [if_pos h]
theorem dH_eq (b i d:Nat → Int) (n m:Nat):dH b i d n m = if m / 4 < n then (if m % 4 = 0 then b (m / 4) else if m % 4 = 1 then i (m / 4) else if m % 4 = 2 then d (m / 4) else 0) else 0:=by
 induction n with
 | zero => rw [if_neg (by omega)];rfl
 | succ n ih =>
  show upd (upd (upd (dH b i d n) (4 * n) (b n)) (4 * n + 1) (i n)) (4 * n + 2) (d n) m = _
  unfold upd
  by_cases h2:m = 4 * n + 2
  ·rw [if_pos h2,if_pos (by omega),if_neg (by omega),if_neg (by omega),if_pos (by omega),show m / 4 = n by omega]
  rw [if_neg h2]
  by_cases h1:m = 4 * n + 1
  ·rw [if_pos h1,if_pos (by omega),if_neg (by omega),if_pos (by omega),show m / 4 = n by omega]
  rw [if_neg h1]
  by_cases h0:m = 4 * n
  ·rw [if_pos h0,if_pos (by omega),if_pos (by omega),show m / 4 = n by omega]
  rw [if_neg h0,ih]
  by_cases h3:m = 4 * n + 3
  ·rw [if_neg (by omega),if_pos (by omega),if_neg (by omega),if_neg (by omega),if_neg (by omega)]
  by_cases h:m / 4 < n
  ·have h':m / 4 < n + 1:=by omega
   rw [if_pos h,if_pos h']
  ·have h':¬ m / 4 < n + 1:=by omega
   rw [if_neg h,if_neg h']
theorem dH_hvs {b i d:Nat → Int} {n:Nat} (h:∀ k,k < n → (0 ≤ b k ∧ b k ≤ 512) ∧ (0 ≤ i k ∧ i k ≤ 64) ∧ (0 ≤ d k ∧ d k ≤ 64)):Hvs (dH b i d n):=by
 intro m
 rw [dH_eq]
 split
 ·rename_i hm
  have:=h (m / 4) hm
  split
  ·omega
  split
  ·omega
  split
  ·omega
  ·omega
 ·omega
def eqD (a b c a' b' c':Int):Bool:=a == a' && (b == b' && c == c')
theorem run_eql_desc (a b c a' b' c':Int) (w:World):(binOp .eql 67 (dval a b c) (dval a' b' c')).run Tryz.prog w = .ok (.bool (eqD a b c a' b' c')) w:=by
 have hS:Tryz.prog.underlying 67 = some (.struct (Tryz.prog.fieldsOf 67)):=by kernel_rfl
 have hp:Tryz.prog.stoodInHeld 67 = false:=by kernel_rfl
 rw [run_eql_struct,show (10000:Nat) = 9999 + 1 from rfl,run_equalIn_agg w 9999 _ _ _ hS hp]
 simp only [Program.fieldsOf,Tryz.underlying67]
 clear hS hp
 go_simp
 unfold eqD
 by_cases h1:a = a' <;> by_cases h2:b = b' <;> by_cases h3:c = c' <;> simp [h1,h2,h3]
def eqG (G S I J G' S' I' J':Int):Bool:=G == G' && (S == S' && (I == I' && J == J'))
def eqS (G S I J O G' S' I' J' O':Int):Bool:=eqG G S I J G' S' I' J' && O == O'
theorem eqS_iff {G S I J O G' S' I' J' O':Int}:eqS G S I J O G' S' I' J' O' = true ↔ G = G' ∧ S = S' ∧ I = I' ∧ J = J' ∧ O = O':=by unfold eqS eqG;simp [and_assoc]
theorem supH_at (G S I J O:Int):supH G S I J O 4 = G ∧ supH G S I J O 5 = S ∧ supH G S I J O 6 = I ∧ supH G S I J O 7 = J ∧ supH G S I J O 8 = O % 65536 ∧ supH G S I J O 9 = O / 65536:=by
 simp [supH,geoH,upd2,upd]
theorem unlike {G S I J O G' S' I' J' O':Int} (h:supOk G S I J O = true) (h':supOk G' S' I' J' O' = true) (hO:0 ≤ O ∧ O < 4294967296) (hO':0 ≤ O' ∧ O' < 4294967296) :
  eqB (supZ G S I J O) (supZ G' S' I' J' O') 256 = eqS G S I J O G' S' I' J' O':=by
 rw [Bool.eq_iff_iff,eqS_iff]
 constructor
 ·intro he
  rw [eqB_iff] at he
  have hh:∀ k,k < 126 → supH G S I J O k = supH G' S' I' J' O' k:=fun k hk => by
   rw [← hd_seal (supH_hvs (supOk_iff.1 h).1 hO) hk,← hd_seal (supH_hvs (supOk_iff.1 h').1 hO') hk,← supZ_yes h,← supZ_yes h']
   unfold hd g16
   rw [he _ (by omega),he _ (by omega)]
  obtain ⟨a4,a5,a6,a7,a8,a9⟩:=supH_at G S I J O
  obtain ⟨b4,b5,b6,b7,b8,b9⟩:=supH_at G' S' I' J' O'
  have e4:=hh 4 (by omega);have e5:=hh 5 (by omega);have e6:=hh 6 (by omega);have e7:=hh 7 (by omega);have e8:=hh 8 (by omega);have e9:=hh 9 (by omega)
  rw [a4,b4] at e4;rw [a5,b5] at e5;rw [a6,b6] at e6;rw [a7,b7] at e7;rw [a8,b8] at e8;rw [a9,b9] at e9
  exact ⟨e4,e5,e6,e7,by omega⟩
 ·rintro ⟨rfl,rfl,rfl,rfl,rfl⟩
  exact eqB_refl _ _
end Go.Proofs.YtphamecphmbipaaGreatDoor

namespace Go.Proofs.YtphamecphmbipaaGreatDoor
set_option linter.unusedVariables false
theorem supH_low (G S I J O:Int):supH G S I J O 0 = 21073 ∧ supH G S I J O 1 = 12622 ∧ supH G S I J O 2 = 1 ∧ supH G S I J O 3 = 256:=by
 simp [supH,geoH,upd2,upd]
theorem supH_high (G S I J O:Int) (k:Nat) (hk:10 ≤ k):supH G S I J O k = 0:=by
 unfold supH geoH upd2 upd
 rw [if_neg (by omega),if_neg (by omega),if_neg (by omega),if_neg (by omega),if_neg (by omega),if_neg (by omega),if_neg (by omega),if_neg (by omega),if_neg (by omega),if_neg (by omega)]
theorem sup_back {G S I J O:Int} (h:supOk G S I J O = true) (hO:0 ≤ O ∧ O < 4294967296):readE (supZ G S I J O) = 0 ∧ readV (supZ G S I J O) = sval G S I J O:=by
 obtain ⟨hm,hn⟩:=supOk_iff.1 h
 have hv:=supH_hvs hm hO
 rw [supZ_yes h]
 generalize hl:supH G S I J O = l at *
 have hh:∀ k,k < 126 → hd (sealZ (hz l)) k = l k:=fun k hk => hd_seal hv hk
 obtain ⟨a0,a1,a2,a3⟩:=supH_low G S I J O
 obtain ⟨a4,a5,a6,a7,a8,a9⟩:=supH_at G S I J O
 have ah:=supH_high G S I J O
 rw [hl] at a0 a1 a2 a3 a4 a5 a6 a7 a8 a9 ah
 have z0:g32 (sealZ (hz l)) 0 = 827216465:=by rw [show (0:Nat) = 2 * 0 from rfl,g32_seal hv (by omega),a0,a1];rfl
 have z16:g32 (sealZ (hz l)) 16 = O:=by rw [show (16:Nat) = 2 * 8 from rfl,g32_seal hv (by omega),a8,a9];omega
 have zn:allZ (fun i => sealZ (hz l) (20 + i)) 232 = true:=by
  have:=allZ_hd (sealZ_byt (hz_byt l)) 10 116
  rw [show 2 * 10 = 20 from rfl,show 2 * 116 = 232 from rfl] at this
  rw [this,allZ_iff]
  intro j hj
  show hd (sealZ (hz l)) (10 + j) = 0
  rw [hh _ (by omega)]
  exact ah _ (by omega)
 have hA:readA (sealZ (hz l)) = true:=by unfold readA;rw [z0,hh 2 (by omega),hh 3 (by omega),a2,a3,sumB_seal,zn];rfl
 have hE:readE (sealZ (hz l)) = 0:=by
  unfold readE
  rw [hA,if_pos rfl,hh 4 (by omega),hh 5 (by omega),hh 6 (by omega),hh 7 (by omega),a4,a5,a6,a7,z16,hm,if_pos rfl,if_pos hn]
 refine ⟨hE,?_⟩
 unfold readV
 rw [if_pos hE,hh 4 (by omega),hh 5 (by omega),hh 6 (by omega),hh 7 (by omega),a4,a5,a6,a7,z16]
theorem allB_congr {p q:Nat → Bool} {n:Nat} (h:∀ k,k < n → p k = q k):allB p n = allB q n:=by
 induction n with
 | zero => rfl
 | succ n ih => show (allB p n && p n) = (allB q n && q n);rw [ih fun k hk => h k (by omega),h n (by omega)]
theorem mayD_congr {G S I J:Int} {n:Nat} {b i d b' i' d':Nat → Int} (h:∀ k,k < n → b k = b' k ∧ i k = i' k ∧ d k = d' k):mayD G S I J n b i d = mayD G S I J n b' i' d':=by
 unfold mayD
 rw [allB_congr fun k hk => by rw [(h k hk).1,(h k hk).2.1,(h k hk).2.2]]
theorem desc_back {G S I J:Int} {n:Nat} {b i d:Nat → Int} (h:descOk G S I J n b i d = true) :
  rdOk G S I J (descZ G S I J n b i d) = true ∧ G.toNat = n ∧ ∀ k,k < n → rB (descZ G S I J n b i d) k = b k ∧ rI (descZ G S I J n b i d) k = i k ∧ rD (descZ G S I J n b i d) k = d k:=by
 obtain ⟨hm,hd'⟩:=descOk_iff.1 h
 obtain ⟨hn,hn4,hall⟩:=mayD_iff hm hd'
 have hv:=dH_hvs hall
 rw [descZ_yes h]
 have hh:∀ k,k < 126 → hd (sealZ (hz (dH b i d n))) k = dH b i d n k:=fun k hk => hd_seal hv hk
 have hGn:G.toNat = n:=by omega
 have hr:∀ k,k < n → rB (sealZ (hz (dH b i d n))) k = b k ∧ rI (sealZ (hz (dH b i d n))) k = i k ∧ rD (sealZ (hz (dH b i d n))) k = d k:=by
  intro k hk
  refine ⟨?_,?_,?_⟩
  ·rw [rB,hh _ (by omega),dH_eq,if_pos (by omega),if_pos (by omega),show 4 * k / 4 = k by omega]
  ·rw [rI,hh _ (by omega),dH_eq,if_pos (by omega),if_neg (by omega),if_pos (by omega),show (4 * k + 1) / 4 = k by omega]
  ·rw [rD,hh _ (by omega),dH_eq,if_pos (by omega),if_neg (by omega),if_neg (by omega),if_pos (by omega),show (4 * k + 2) / 4 = k by omega]
 refine ⟨?_,hGn,hr⟩
 unfold rdOk rdIn
 rw [hm,hGn,sumB_seal]
 have zn:allZ (fun j => sealZ (hz (dH b i d n)) (8 * n + j)) (252 - 8 * n) = true:=by
  have:=allZ_hd (sealZ_byt (hz_byt (dH b i d n))) (4 * n) (126 - 4 * n)
  rw [show 2 * (4 * n) = 8 * n by omega,show 2 * (126 - 4 * n) = 252 - 8 * n by omega] at this
  rw [this,allZ_iff]
  intro j hj
  show hd (sealZ (hz (dH b i d n))) (4 * n + j) = 0
  rw [hh _ (by omega),dH_eq,if_neg (by omega)]
 have zb:allB (fun k => hd (sealZ (hz (dH b i d n))) (4 * k + 3) == 0) n = true:=(allB_iff _ _).2 fun k hk => by
  show (hd (sealZ (hz (dH b i d n))) (4 * k + 3) == 0) = true
  rw [hh _ (by omega),dH_eq,if_pos (by omega),if_neg (by omega),if_neg (by omega),if_neg (by omega)];rfl
 rw [zn,zb,mayD_congr hr,hd']
 rfl
end Go.Proofs.YtphamecphmbipaaGreatDoor

namespace Go.Proofs.YtphamecphmbipaaGreatDoor
open Go.RowKit
set_option linter.unusedVariables false
abbrev mkIm (g s i j:Nat):Im:=⟨mkB g s i j,2 + j + g * s,g,s,i,j,0⟩
theorem mk_heads {g s i j:Nat} (hm:mayG g s i j = true):readE (mkB g s i j 0) = 0 ∧ hd (mkB g s i j 0) 4 = g ∧ hd (mkB g s i j 0) 5 = s ∧ hd (mkB g s i j 0) 6 = i ∧ hd (mkB g s i j 0) 7 = j ∧ g32 (mkB g s i j 0) 16 = 0:=by
 obtain ⟨h1,h2,h3,h4,h5,h6,h7,h8,h9,h10,h11⟩:=mayN hm
 obtain ⟨hE,hV⟩:=sup_back (supOk0 hm) ⟨Int.le_refl 0,by decide⟩
 rw [mkB_0 h8]
 refine ⟨hE,?_⟩
 unfold readV at hV
 rw [if_pos hE] at hV
 simp only [Value.agg.injEq,Array.mk.injEq,List.cons.injEq,Value.int.injEq,true_and,and_true] at hV
 exact hV
theorem mk_of {g s i j:Nat} (hm:mayG g s i j = true):Im.of (mkB g s i j) (2 + j + g * s) = mkIm g s i j:=by
 obtain ⟨hE,e4,e5,e6,e7,e8⟩:=mk_heads hm
 unfold Im.of
 rw [e4,e5,e6,e7,e8]
 simp only [Int.toNat_natCast,Int.toNat_zero]
theorem mk_st {g s i j k:Nat} (hm:mayG g s i j = true):mkB g s i j ((mkIm g s i j).st k) = bZ (mapB (2 + i / 4) s):=by
 obtain ⟨h1,h2,h3,h4,h5,h6,h7,h8,h9,h10,h11⟩:=mayN hm
 have:=mkB_group (g:=g) (i:=i) (γ:=k) (d:=0) h3 h8 (by omega)
 rw [if_neg (by omega),if_pos rfl] at this
 exact this
theorem mk_st1 {g s i j k:Nat} (hm:mayG g s i j = true):mkB g s i j ((mkIm g s i j).st k + 1) = bZ (mapB (if k = 0 then 1 else 0) i):=by
 obtain ⟨h1,h2,h3,h4,h5,h6,h7,h8,h9,h10,h11⟩:=mayN hm
 have:=mkB_group (g:=g) (i:=i) (γ:=k) (d:=1) h3 h8 (by omega)
 rw [if_neg (by omega),if_neg (by omega),if_pos rfl] at this
 exact this
theorem mk_tab {g s i j t:Nat} (hm:mayG g s i j = true) (h:1 ≤ t):mkB g s i j ((mkIm g s i j).ib t) = if t ≤ 4 ∧ t ≤ i then rootZ else fun _ => 0:=by
 obtain ⟨h1,h2,h3,h4,h5,h6,h7,h8,h9,h10,h11⟩:=mayN hm
 have hr:(t - 1) % i < i:=Nat.mod_lt _ (by omega)
 have:=mkB_group (g:=g) (i:=i) (γ:=(t - 1) / i) (d:=2 + (t - 1) % i / 4) h3 h8 (by omega)
 have e:(mkIm g s i j).ib t = 2 + j + (t - 1) / i * s + (2 + (t - 1) % i / 4):=by show 2 + j + (t - 1) / i * s + 2 + (t - 1) % i / 4 = _;omega
 rw [e,this]
 by_cases c:t ≤ 4 ∧ t ≤ i
 ·rw [if_pos c]
  have e1:(t - 1) / i = 0:=Nat.div_eq_of_lt (by omega)
  have e2:(t - 1) % i = t - 1:=Nat.mod_eq_of_lt (by omega)
  rw [e1,e2,if_pos ⟨rfl,by omega⟩]
 ·rw [if_neg c,if_neg,if_neg (by omega),if_neg (by omega)]
  rintro ⟨e1,e2⟩
  have e3:t - 1 < i:=by
   rcases Nat.lt_or_ge (t - 1) i with h | h
   ·exact h
   ·have:=Nat.div_pos h (by omega);omega
  rw [Nat.mod_eq_of_lt e3] at e2
  omega
theorem zero_get:getErr (fun _ => 0) 0 = 0 ∧ getErr (fun _ => 0) 64 = 0 ∧ getErr (fun _ => 0) 128 = 0 ∧ getErr (fun _ => 0) 192 = 0:=by decide
theorem root_get:getErr rootZ 0 = 0 ∧ getErr rootZ 64 = 0 ∧ getErr rootZ 128 = 0 ∧ getErr rootZ 192 = 0:=by decide
theorem root_ino:(getIno rootZ 0).kind = 2 ∧ (getIno rootZ 0).links = 1 ∧ (getIno rootZ 0).size = 0 ∧ (getIno rootZ 0).next = 0 ∧ allZ (getIno rootZ 0).p 11 = true:=by decide
theorem root_free:((getIno rootZ 64).kind = 0 ∧ (getIno rootZ 64).next = 0) ∧ ((getIno rootZ 128).kind = 0 ∧ (getIno rootZ 128).next = 0) ∧ ((getIno rootZ 192).kind = 0 ∧ (getIno rootZ 192).next = 0):=by decide
theorem zero_free:((getIno (fun _ => 0) 0).kind = 0 ∧ (getIno (fun _ => 0) 0).next = 0) ∧ ((getIno (fun _ => 0) 64).kind = 0 ∧ (getIno (fun _ => 0) 64).next = 0) ∧ ((getIno (fun _ => 0) 128).kind = 0 ∧ (getIno (fun _ => 0) 128).next = 0) ∧ ((getIno (fun _ => 0) 192).kind = 0 ∧ (getIno (fun _ => 0) 192).next = 0):=by decide
theorem ia_cases (x:Im) (t:Nat):((x.ia t:Nat):Int) = 0 ∨ ((x.ia t:Nat):Int) = 64 ∨ ((x.ia t:Nat):Int) = 128 ∨ ((x.ia t:Nat):Int) = 192:=by
 unfold Im.ia
 have:(t - 1) % x.i % 4 < 4:=Nat.mod_lt _ (by decide)
 omega
theorem mk_err {g s i j t:Nat} (hm:mayG g s i j = true) (h:1 ≤ t):getErr (mkB g s i j ((mkIm g s i j).ib t)) ((mkIm g s i j).ia t) = 0:=by
 rw [mk_tab hm h]
 have z:=zero_get
 have r:=root_get
 rcases ia_cases (mkIm g s i j) t with e | e | e | e <;> rw [e] <;> split
 ·exact r.1
 ·exact z.1
 ·exact r.2.1
 ·exact z.2.1
 ·exact r.2.2.1
 ·exact z.2.2.1
 ·exact r.2.2.2
 ·exact z.2.2.2
theorem mk_ino1 {g s i j:Nat} (hm:mayG g s i j = true):(mkIm g s i j).ino 1 = getIno rootZ 0:=by
 obtain ⟨h1,h2,h3,h4,h5,h6,h7,h8,h9,h10,h11⟩:=mayN hm
 have hn:1 ≤ (mkIm g s i j).ni:=by show 1 ≤ g * i;exact Nat.mul_le_mul h1 (show 1 ≤ i by omega)
 unfold Im.ino
 rw [if_pos ⟨Nat.le_refl _,hn⟩]
 show getIno (mkB g s i j ((mkIm g s i j).ib 1)) _ = _
 rw [mk_tab hm (Nat.le_refl _),if_pos ⟨by omega,by omega⟩]
 have:(mkIm g s i j).ia 1 = 0:=by show (1 - 1) % i % 4 * 64 = 0;rw [Nat.sub_self,Nat.zero_mod]
 rw [this];rfl
theorem mk_ino {g s i j t:Nat} (hm:mayG g s i j = true) (ht:t ≠ 1):((mkIm g s i j).ino t).kind = 0 ∧ ((mkIm g s i j).ino t).next = 0:=by
 obtain ⟨h1,h2,h3,h4,h5,h6,h7,h8,h9,h10,h11⟩:=mayN hm
 unfold Im.ino
 by_cases c:1 ≤ t ∧ t ≤ (mkIm g s i j).ni
 rotate_left
 ·rw [if_neg c];exact ⟨rfl,rfl⟩
 rw [if_pos c]
 show (getIno (mkB g s i j ((mkIm g s i j).ib t)) _).kind = 0 ∧ (getIno (mkB g s i j ((mkIm g s i j).ib t)) _).next = 0
 rw [mk_tab hm c.1]
 have z:=zero_free
 have r:=root_free
 by_cases c4:t ≤ 4 ∧ t ≤ i
 ·rw [if_pos c4]
  have e:(mkIm g s i j).ia t = (t - 1) * 64:=by show (t - 1) % i % 4 * 64 = _;rw [Nat.mod_eq_of_lt (show t - 1 < i by omega),Nat.mod_eq_of_lt (by omega)]
  rw [e]
  have:t = 2 ∨ t = 3 ∨ t = 4:=by omega
  rcases this with rfl | rfl | rfl
  ·exact r.1
  ·exact r.2.1
  ·exact r.2.2
 ·rw [if_neg c4]
  rcases ia_cases (mkIm g s i j) t with e | e | e | e <;> rw [e]
  ·exact z.1
  ·exact z.2.1
  ·exact z.2.2.1
  ·exact z.2.2.2
theorem mk_good {g s i j:Nat} (hm:mayG g s i j = true):∃ m u,Im.Good (mkIm g s i j) m (fun _ => 0) u:=by
 obtain ⟨h1,h2,h3,h4,h5,h6,h7,h8,h9,h10,h11⟩:=mayN hm
 obtain ⟨hE,e4,e5,e6,e7,e8⟩:=mk_heads hm
 obtain ⟨rk,rl,rs,rn,rp⟩:=root_ino
 have hi1:=mk_ino1 hm
 have hni:1 ≤ (mkIm g s i j).ni:=by show 1 ≤ g * i;exact Nat.mul_le_mul h1 (show 1 ≤ i by omega)
 have hu:updN (fun _ => ([]:List Nat)) 1 [] = fun _ => []:=by funext b;unfold updN;split <;> rfl
 have hcnt:∀ t n,Im.cnt (fun _ => ([]:List Nat)) t n = 0:=fun t n => by
  induction n with
  | zero => rfl
  | succ n ih => rw [Im.cnt,ih];rfl
 have hreach:(mkIm g s i j).reach (fun _ => []) = updN (fun _ => false) 1 true:=by
  unfold Im.reach
  rw [Im.popF,List.foldl_nil]
  cases (mkIm g s i j).ni with
  | zero => rfl
  | succ n => rfl
 refine ⟨fun _ => false,fun _ => [],⟨?_,?_,?_,?_,?_,?_,?_,?_,?_,?_,?_,?_,?_⟩⟩
 ·unfold Im.ck1
  show (decide (0 < 2 + j + g * s) && (readE (mkB g s i j 0) == 0 && (((2 + j + g * s:Nat):Int) == nBl (hd (mkB g s i j 0) 4) (hd (mkB g s i j 0) 5) (hd (mkB g s i j 0) 6) (hd (mkB g s i j 0) 7)))) = true
  rw [hE,e4,e5,e6,e7]
  unfold nBl
  rw [hm,if_pos rfl]
  simp;omega
 ·unfold Im.ck2
  show rdOk g s i j (mkB g s i j 1) = true
  rw [mkB_1 h8]
  exact (desc_back (descOk0 hm)).1
 ·intro k hk
  unfold Im.ck3
  show (Im.allS (bt (mkB g s i j ((mkIm g s i j).st k))) 0 (2 + i / 4) && (Im.allS (bt (mkB g s i j ((mkIm g s i j).st k))) s 2048 && Im.allS (bt (mkB g s i j ((mkIm g s i j).st k + 1))) i 2048)) = true
  rw [mk_st hm,mk_st1 hm,Bool.and_eq_true,Bool.and_eq_true,Im.allS_iff,Im.allS_iff,Im.allS_iff]
  refine ⟨fun q a b => ?_,fun q a b => ?_,fun q a b => ?_⟩ <;> rw [bt_bZ] <;> unfold mapB <;> simp <;> omega
 ·intro t ht1 ht2
  unfold Im.ck4
  rw [show getErr ((mkIm g s i j).L ((mkIm g s i j).ib t)) ((mkIm g s i j).ia t) = 0 from mk_err hm ht1]
  have hu:(mkIm g s i j).used t = decide (t = 1):=by
   unfold Im.used
   show bt (mkB g s i j ((mkIm g s i j).st ((t - 1) / i) + 1)) ((t - 1) % i) = _
   rw [mk_st1 hm,bt_bZ]
   have hr:(t - 1) % i < i:=Nat.mod_lt _ (by omega)
   unfold mapB
   by_cases e:t = 1
   ·subst e;simp
   ·have:¬ (t - 1) % i < (if (t - 1) / i = 0 then 1 else 0):=by
     split
     ·rename_i e0
      have hlt:t - 1 < i:=by
       rcases Nat.lt_or_ge (t - 1) i with h | h
       ·exact h
       ·have:=Nat.div_pos h (by omega);omega
      rw [Nat.mod_eq_of_lt hlt];omega
     ·omega
    rw [decide_eq_false this,decide_eq_false (show ¬ i ≤ (t - 1) % i by omega),decide_eq_false e];rfl
  rw [hu]
  by_cases e:t = 1
  ·subst e;rw [hi1,rk];rfl
  ·rw [(mk_ino hm e).1];simp [e]
 ·rw [hi1];exact rk
 ·unfold Im.orph
  rw [Im.orpF,if_pos rfl]
 ·intro t ht1 ht2
  unfold Im.ck6
  by_cases e:t = 1
  ·subst e;rw [hi1,rn,rk];rfl
  ·rw [(mk_ino hm e).1,(mk_ino hm e).2];rfl
 ·unfold Im.trees
  refine foldO_id fun t ht => ?_
  unfold Im.treeF
  by_cases e:t = 0
  ·subst e
   rw [show 0 + 1 = 1 from rfl,hi1,if_neg (by rw [rk];decide)]
   refine foldO_id fun q hq => ?_
   rw [(allZ_iff _ _).1 rp q hq]
   exact Im.ptrF_zero _ _ _ _ _ _
  ·rw [if_pos (mk_ino hm (by omega)).1]
 ·intro k hk
  unfold Im.ck8
  rw [allB_iff]
  intro d hd
  show (bt (mkB g s i j ((mkIm g s i j).st k)) (2 + i / 4 + d) == false) = true
  replace hd:d < s - (2 + i / 4):=hd
  rw [mk_st hm,bt_bZ]
  unfold mapB
  simp;omega
 ·unfold Im.dirs
  have key:∀ n,n ≤ (mkIm g s i j).ni → foldO (fun t u => if ((mkIm g s i j).ino (t + 1)).kind = 2 then ((mkIm g s i j).dirF (t + 1)).map (fun r => updN u (t + 1) r.2) else some u) n (fun _ => []) = some fun _ => []:=fun n hn => by
   refine foldO_id fun t ht => ?_
   by_cases e:t = 0
   ·subst e
    rw [show 0 + 1 = 1 from rfl,if_pos (by rw [hi1];exact rk)]
    have:(mkIm g s i j).dirF 1 = some ([],[]):=by
     unfold Im.dirF
     rw [hi1,rs];rfl
    rw [this]
    show some (updN (fun _ => []) 1 []) = _
    rw [hu]
   ·rw [if_neg (by rw [(mk_ino hm (show t + 1 ≠ 1 by omega)).1];decide)]
  exact key _ (Nat.le_refl _)
 ·intro t ht1 ht2
  unfold Im.ck10
  rw [hcnt]
  by_cases e:t = 1
  ·rw [if_pos e];rfl
  ·rw [if_neg e,if_neg (by rw [(mk_ino hm e).1];decide),if_neg (by rw [(mk_ino hm e).1];decide)]
 ·intro t ht
  unfold Im.ck11
  rw [hreach]
  by_cases e:t = 1
  ·subst e;simp [updN]
  ·rw [(mk_ino hm e).1];rfl
 ·intro k hk
  obtain ⟨_,_,hr⟩:=desc_back (descOk0 hm)
  obtain ⟨b1,b2,b3⟩:=hr k hk
  have nd:nDa g s i j = (s:Int) - 2 - ((i / 4:Nat):Int):=by unfold nDa;rw [hm,if_pos rfl];omega
  unfold Im.ck12 Im.free Im.freeI
  show ((s:Int) - (cntB (bt (mkB g s i j ((mkIm g s i j).st k))) s:Nat) == rB (mkB g s i j 1) k && ((i:Int) - (cntB (bt (mkB g s i j ((mkIm g s i j).st k + 1))) i:Nat) == rI (mkB g s i j 1) k && (((mkIm g s i j).nDir k:Nat):Int) == rD (mkB g s i j 1) k)) = true
  rw [mk_st hm,mk_st1 hm,mkB_1 h8,b1,b2,b3]
  rw [cntB_low (u:=2 + i / 4) (by omega) (fun q hq => by rw [bt_bZ];unfold mapB;simp;omega)]
  rw [cntB_low (u:=if k = 0 then 1 else 0) (by split <;> omega) (fun q hq => by rw [bt_bZ];unfold mapB;simp;omega)]
  have hnd:(mkIm g s i j).nDir k = if k = 0 then 1 else 0:=by
   unfold Im.nDir
   refine cntB_low (by show (if k = 0 then 1 else 0) ≤ i;split <;> omega) fun q hq => ?_
   replace hq:q < i:=hq
   show (((mkIm g s i j).ino (k * i + q + 1)).kind == 2) = _
   by_cases e:k * i + q + 1 = 1
   ·rw [e,hi1,rk]
    have hk0:k = 0:=by
     rcases Nat.eq_zero_or_pos k with h | h
     ·exact h
     ·have:=Nat.mul_le_mul h (show 1 ≤ i by omega);omega
    subst hk0
    simp;omega
   ·rw [(mk_ino hm e).1]
    have:¬ q < (if k = 0 then 1 else 0):=by
     split
     ·rename_i h0;subst h0;omega
     ·omega
    simp [this]
  rw [hnd]
  unfold dkB dkI dkD
  rw [nd]
  by_cases e:k = 0
  ·simp only [e,if_true];simp;omega
  ·simp only [e,if_false];simp;omega
theorem mk_exam {g s i j:Nat} (hm:mayG g s i j = true):(Im.of (mkB g s i j) (2 + j + g * s)).exam = (0,fun _ => 0):=by
 rw [mk_of hm]
 obtain ⟨m,u,h⟩:=mk_good hm
 exact Im.exam_good h
end Go.Proofs.YtphamecphmbipaaGreatDoor
