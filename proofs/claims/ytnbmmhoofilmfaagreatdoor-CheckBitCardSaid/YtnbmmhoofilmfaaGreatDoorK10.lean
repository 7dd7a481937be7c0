/- Texts of this claim, merged by a program (a claim may have 60 files): U6b, U6c, U6e, U6d, U6f, BitP, Bits. -/
import Derived.Test.YtnbmmhoofilmfaaGreatDoorK08
import Derived.Test.YtnbmmhoofilmfaaGreatDoorK05
import Derived.Test.YtnbmmhoofilmfaaGreatDoorK07
import Derived.Test.YtnbmmhoofilmfaaGreatDoorK02
import Derived.Test.YtnbmmhoofilmfaaGreatDoorK09
import Derived.Test.YtnbmmhoofilmfaaGreatDoorK04
import Derived.Laws.BitsAllLaws
namespace Go.Proofs.YtnbmmhoofilmfaaGreatDoor
open Go.RowKit
set_option linter.unusedVariables false
abbrev sval (G S I J O:Int):Value:=.agg #[.int .i64 G,.int .i64 S,.int .i64 I,.int .i64 J,.int .u32 O]
abbrev scells (G S I J O:Int):Array Value:=#[.int .i64 G,.int .i64 S,.int .i64 I,.int .i64 J,.int .u32 O]
abbrev dval (B I D:Int):Value:=.agg #[.int .i64 B,.int .i64 I,.int .i64 D]
abbrev dcells (B I D:Int):Array Value:=#[.int .i64 B,.int .i64 I,.int .i64 D]
theorem zero_geo (W:World):(zeroValue 23).run Tryz.prog W = .ok (gval 0 0 0 0) W:=by kernel_rfl
theorem zero_super (W:World):(zeroValue 47).run Tryz.prog W = .ok (sval 0 0 0 0 0) W:=by kernel_rfl
theorem zero_desc (W:World):(zeroValue 67).run Tryz.prog W = .ok (dval 0 0 0) W:=by kernel_rfl
set_option maxRecDepth 100000 in
set_option maxHeartbeats 2000000 in
theorem getGeo_any (g:Nat) (z:Nat → Int) (hzb:Byt z) (w:World) {T:TypeId} (hB:Blk w g T 256 z) :
  Calls Tryz.prog 195 #[getFn g] w fun e w' => e = .returned (gval (hd z 4) (hd z 5) (hd z 6) (hd z 7)) ∧ Below w.heap.size w w':=by
 have hal:=zero_geo
 have HA:=Lib.hid (At.new w 23 (gcells 0 0 0 0))
 have HL:Hid (Below w.heap.size w (w.alloc (.cells (gcells 0 0 0 0) 23))):=(Below.refl _ _).alloc (Nat.le_refl _) _
 have HG:Hid (∀ (W:World) (k:Nat) (K:Int),Blk W g T 256 z → K = 2 * (k:Int) → k < 128 → Calls Tryz.prog 50 #[.pointer (some ⟨g,0,none⟩),.int .i64 K] W fun e w' => e = .returned (.int .i64 (hd z k)) ∧ W = w') :=
  fun W k K hB hK hk => pageGet_any g z hzb k K hK hk W hB
 have HB:=Lib.hid (hB.alloc (.cells (gcells 0 0 0 0) 23))
 clear hB
 go_enter Tryz.func195,Tryz.ntmps195
 go_wp2_with fail
 refine (HG.out _ 4 8 HB.out rfl (by omega)).mono ?_
 rintro e w1 ⟨rfl,rfl⟩
 go_wp2_with fail
 refine (HG.out _ 5 10 HB.out rfl (by omega)).mono ?_
 rintro e w1 ⟨rfl,rfl⟩
 go_wp2_with fail
 refine (HG.out _ 6 12 HB.out rfl (by omega)).mono ?_
 rintro e w1 ⟨rfl,rfl⟩
 go_wp2_with fail
 refine (HG.out _ 7 14 HB.out rfl (by omega)).mono ?_
 rintro e w1 ⟨rfl,rfl⟩
 go_wp2_with fail
 exact bodyPost_ret (results_row rfl _ _ _ _ _ _ _ rfl (At.new w 23 (gcells (hd z 4) (hd z 5) (hd z 6) (hd z 7))) Tryz.underlying23 rfl (by kernel_rfl)) rfl ⟨rfl,(Below.refl _ _).alloc (Nat.le_refl _) _⟩
set_option maxRecDepth 100000 in
set_option maxHeartbeats 2000000 in
theorem getDesc_any (g:Nat) (z:Nat → Int) (hzb:Byt z) (k:Nat) (K:Int) (hK:K = 8 * (k:Int)) (hk:k < 31) (w:World) {T:TypeId} (hB:Blk w g T 256 z) :
  Calls Tryz.prog 49 #[.int .i64 K,getFn g] w fun e w' => e = .returned (dval (hd z (4 * k)) (hd z (4 * k + 1)) (hd z (4 * k + 2))) ∧ Below w.heap.size w w':=by
 have hal:=zero_desc
 have HA:=Lib.hid (At.new w 67 (dcells 0 0 0))
 have HL:Hid (Below w.heap.size w (w.alloc (.cells (dcells 0 0 0) 67))):=(Below.refl _ _).alloc (Nat.le_refl _) _
 have HG:Hid (∀ (W:World) (j:Nat) (K':Int),Blk W g T 256 z → K' = K + 2 * (j:Int) → j < 3 → Calls Tryz.prog 50 #[.pointer (some ⟨g,0,none⟩),.int .i64 K'] W fun e w' => e = .returned (.int .i64 (hd z (4 * k + j))) ∧ W = w') :=
  fun W j K' hB hK' hj => pageGet_any g z hzb (4 * k + j) K' (by omega) (by omega) W hB
 have HB:=Lib.hid (hB.alloc (.cells (dcells 0 0 0) 67))
 have hKb:0 ≤ K ∧ K < 250:=by omega
 clear hB hK
 go_enter Tryz.func49,Tryz.ntmps49
 go_wp2_with fail
 refine (HG.out _ 0 K HB.out (by omega) (by omega)).mono ?_
 rintro e w1 ⟨rfl,rfl⟩
 go_wp2_with fail
 refine (HG.out _ 1 (K + 2) HB.out (by omega) (by omega)).mono ?_
 rintro e w1 ⟨rfl,rfl⟩
 go_wp2_with fail
 refine (HG.out _ 2 (K + 4) HB.out (by omega) (by omega)).mono ?_
 rintro e w1 ⟨rfl,rfl⟩
 go_wp2_with fail
 exact bodyPost_ret (results_row rfl _ _ _ _ _ _ _ rfl (At.new w 67 (dcells (hd z (4 * k)) (hd z (4 * k + 1)) (hd z (4 * k + 2)))) Tryz.underlying67 rfl (by kernel_rfl)) rfl ⟨rfl,(Below.refl _ _).alloc (Nat.le_refl _) _⟩
structure OrS (w:World) (G S I J O:Int) (W:World):Prop where
 s:At W w.heap.size 47 (scells G S I J O)
 bel:Below w.heap.size w W
set_option maxRecDepth 100000 in
set_option maxHeartbeats 2000000 in
theorem orphaned_any (G S I J O:Int) (hO:0 ≤ O ∧ O < 4294967296) (w:World) :
  Calls Tryz.prog 116 #[sval G S I J O] w fun e w' => e = .returned (.bool (decide (O ≤ nIn G S I J))) ∧ Below w.heap.size w w':=by
 have hA:At (w.alloc (.cells (scells G S I J O) 47)) w.heap.size 47 (scells G S I J O):=At.new _ _ _
 have hL:Below w.heap.size w (w.alloc (.cells (scells G S I J O) 47)):=(Below.refl _ _).alloc (Nat.le_refl _) _
 have hwr:O % 18446744073709551616 = O:=by omega
 have hb:=nIn_bd G S I J
 have HN:Hid (∀ W,Calls Tryz.prog 26 #[gval G S I J] W fun e w' => e = .returned (.int .i64 (nIn G S I J)) ∧ Below W.heap.size W w'):=fun W => geoInodes_any G S I J W
 generalize nIn G S I J = n at *
 have hwn:n % 18446744073709551616 = n:=by omega
 go_enter Tryz.func116,Tryz.ntmps116
 go_wp2_with fail
 have hkeep:Hid (∀ W W',OrS w G S I J O W → Below W.heap.size W W' → OrS w G S I J O W'):=fun W W' h hb => ⟨h.s.below hb h.s.lt,h.bel.trans (hb.mono h.bel.size)⟩
 refine wp_region_S (OrS w G S I J O) (by kernel_rfl) (by kernel_rfl) ⟨hA,hL.drew⟩ ?_
 clear hA hL
 intro hne
 have hc:∀ s:InW (OrS w G S I J O),s.W.cell? ⟨w.heap.size,4,none⟩ = some (.int .u32 O):=fun s => s.h.s.cell (i:=4) rfl
 first | go_big_quiet_skip | (go_big_quiet_want;go_big_quiet_op;go_big_quiet_on)
 first | go_big_quiet_skip | (go_big_quiet_want;go_big_quiet_op;go_big_quiet_on)
 first | go_big_quiet_skip | (go_big_quiet_want;go_big_quiet_op;go_big_quiet_on)
 first | go_big_quiet_skip | (go_big_quiet_want;go_big_quiet_op;go_big_quiet_on)
 refine q_load rfl 23 (.tmp 6) rfl w.heap.size 0 rfl (gcells G S I J).toList _ (fun W h j v hj => ?_) Tryz.underlying23 rfl (by kernel_rfl) ?_
 ·have hj4:j < 4:=(List.getElem?_eq_some_iff.1 hj).1
  refine h.s.cell (i:=0 + j) ?_
  rw [Nat.zero_add,← hj]
  obtain rfl | rfl | rfl | rfl:j = 0 ∨ j = 1 ∨ j = 2 ∨ j = 3:=by omega
  all_goals rfl
 refine wpQuiet_frame (by simp only [Act.put,List.setIfInBounds_toArray,List.set_cons_succ,List.set_cons_zero];exact rfl) ?_
 go_big_quiet_want
 go_big_quiet_op
 refine ⟨_,fun s => q_call s (fun W hW => (HN.out W).mono fun e w' h => ⟨h.1,hkeep.out W w' hW h.2⟩),?_⟩
 go_big_quiet_on
 repeat (first | go_big_quiet_skip | (go_big_quiet_want;go_big_quiet_op;go_big_quiet_on))
 refine wpQuiet_nil ?_
 intro w5 h5
 have hL5:Below w.heap.size w w5:=h5.out.bel
 clear h5 hne
 go_wp2_with fail
 go_ret
 exact ⟨rfl,hL5⟩
def supH (G S I J O:Int):Nat → Int:=upd2 (geoH (upd (upd (upd2 (fun _ => 0) 0 827216465) 2 1) 3 256) G S I J) 8 O
def supOk (G S I J O:Int):Bool:=mayG G S I J && decide (O ≤ nIn G S I J)
def supE (G S I J O:Int):Int:=if mayG G S I J then (if O ≤ nIn G S I J then 0 else 2) else 50
def supZ (G S I J O:Int):Nat → Int:=if supOk G S I J O then sealZ (hz (supH G S I J O)) else fun _ => 0
theorem At.geo {w:World} {g:Nat} {T:TypeId} {G S I J O:Int} (h:At w g T (scells G S I J O)):w.rangeAt g 0 (gcells G S I J).toList:=fun j v hj => by
 have hj4:j < 4:=(List.getElem?_eq_some_iff.1 hj).1
 refine h.cell (i:=0 + j) ?_
 rw [Nat.zero_add,← hj]
 obtain rfl | rfl | rfl | rfl:j = 0 ∨ j = 1 ∨ j = 2 ∨ j = 3:=by omega
 all_goals rfl
theorem wp_loadRange {P:Program} {w:World} {ops:Array Oper} {rest:List Oper} {o:Oper} {a:Act} {Q:Exit → Act → World → Prop} (hw:Region.wanted o (yielded ops a.tmps) = true) (T:TypeId) (p:Operand) (ho:o.op = .load T p)
  (g off:Nat) (cs:List Value) (d:TypeDesc) (hx:a.eval p = .pointer (some ⟨g,off,none⟩)) (hI:w.rangeAt g off cs) (hu:P.underlying T = some d) (hd:d.isRow = true) (hi:(P.info? T).map (·.size) = some cs.length)
  (h:wpList P ops Q rest (a.put o.dst (.agg cs.toArray)) w):wpList P ops Q (o :: rest) a w :=
 BigFrame.wpList_want hw fun _ hK => wp_load_mid T p ho g off hx cs d hI hu hd hi (hK _ _ h)
def df (B I D:Nat → Int) (i:Nat):List Value:=[.int .i64 (B i),.int .i64 (I i),.int .i64 (D i)]
theorem df_len (B I D:Nat → Int) (i:Nat):(df B I D i).length = 3:=rfl
theorem df_ne (B I D:Nat → Int) (i:Nat):df B I D i ≠ []:=by intro h;cases h
theorem df_one (B I D:Nat → Int) (i:Nat):∀ v ∈ df B I D i,v.oneCell' = true:=by
 intro v hv
 simp only [df,List.mem_cons,List.not_mem_nil,or_false] at hv
 rcases hv with rfl | rfl | rfl <;> rfl
def okD (da im b i d:Int):Bool:=decide (0 ≤ b ∧ b ≤ da ∧ 0 ≤ i ∧ i ≤ im ∧ 0 ≤ d ∧ d ≤ im - i)
theorem okD_iff (da im b i d:Int):okD da im b i d = true ↔ 0 ≤ b ∧ b ≤ da ∧ 0 ≤ i ∧ i ≤ im ∧ 0 ≤ d ∧ d ≤ im - i:=by unfold okD;exact decide_eq_true_iff
theorem okD_no {da im b i d:Int} (h:¬ (0 ≤ b ∧ b ≤ da ∧ 0 ≤ i ∧ i ≤ im ∧ 0 ≤ d ∧ d ≤ im - i)):okD da im b i d = false:=by unfold okD;exact decide_eq_false h
def allB (p:Nat → Bool):Nat → Bool
 | 0 => true
 | n + 1 => allB p n && p n
theorem allB_iff (p:Nat → Bool) (n:Nat):allB p n = true ↔ ∀ i,i < n → p i = true:=by
 induction n with
 | zero => simp [allB]
 | succ n ih =>
  unfold allB
  rw [Bool.and_eq_true,ih]
  constructor
  ·rintro ⟨h,g⟩ i hi
   by_cases e:i = n
   ·rw [e];exact g
   ·exact h i (by omega)
  ·intro h;exact ⟨fun i hi => h i (by omega),h n (by omega)⟩
theorem allB_no {p:Nat → Bool} {n j:Nat} (hj:j < n) (h:p j = false):allB p n = false:=by
 cases e:allB p n with
 | false => rfl
 | true => have:=(allB_iff p n).1 e j hj;rw [h] at this;cases this
def mayD (G S I J:Int) (n:Nat) (b i d:Nat → Int):Bool:=decide ((n:Int) = G) && allB (fun k => okD (nDa G S I J) I (b k) (i k) (d k)) n
structure MyS (w:World) (G S I J:Int) (a:Option Addr) (n:Nat) (f:Nat → List Value) (W:World):Prop where
 s:At W w.heap.size 23 (gcells G S I J)
 r:RRow W a 3 n f
 bel:Below w.heap.size w W
theorem MyS.below {w:World} {G S I J:Int} {a:Option Addr} {n:Nat} {f:Nat → List Value} {W W':World} (h:MyS w G S I J a n f W) (hf:f 0 ≠ []) (hb:Below W.heap.size W W'):MyS w G S I J a n f W' :=
 ⟨h.s.below hb h.s.lt,h.r.below hf hb,h.bel.trans (hb.mono h.bel.size)⟩
theorem info_desc:(Tryz.prog.info? 67).map (·.size) = some 3:=by kernel_rfl
set_option maxRecDepth 100000 in
set_option maxHeartbeats 600000 in
theorem superMay_any (G S I J:Int) (hm:mayG G S I J = true) (a:Option Addr) (n cap:Nat) (b i d:Nat → Int) (hn:(n:Int) ≤ 9223372036854775807) (w:World) (hr:RRow w a 3 n (df b i d)) :
  Calls Tryz.prog 51 #[gval G S I J,.slice a n cap] w fun e w' => e = .returned (.bool (mayD G S I J n b i d)) ∧ Below w.heap.size w w':=by
 have st0:MyS w G S I J a n (df b i d) (w.alloc (.cells (gcells G S I J) 23)):=⟨At.new _ _ _,hr.below (df_ne _ _ _ _) ((Below.refl _ _).alloc (Nat.le_refl _) _),(Below.refl _ _).alloc (Nat.le_refl _) _⟩
 have hI:4 ≤ I ∧ I ≤ 64:=by
  obtain ⟨h1,h2,h3,h4,h5,h6,h7,h8,h9,h10,h11⟩:=(mayG_iff G S I J).1 hm
  exact ⟨h5,h6⟩
 have c0:(w.alloc (.cells #[.int .i64 G,.int .i64 S,.int .i64 I,.int .i64 J] 23)).cell? ⟨w.heap.size,0,none⟩ = some (.int .i64 G):=st0.s.cell (i:=0) rfl
 have hgeo:=st0.s
 have ST0:=Lib.hid st0
 clear st0 hr hm
 go_enter Tryz.func51,Tryz.ntmps51
 by_cases hg:(n:Int) = G
 rotate_left
 ·have hg':((n:Int) != G) = true:=by simpa using hg
  have HN:Hid (mayD G S I J n b i d = false):=by show _ = _;unfold mayD;simp [hg]
  clear hg
  go_wp2_with fail
  go_ret
  exact ⟨by rw [HN.out];rfl,ST0.out.bel⟩
 have hg':((n:Int) != G) = false:=by simpa using hg
 have HD:Hid (mayD G S I J n b i d = allB (fun k => okD (nDa G S I J) I (b k) (i k) (d k)) n):=by show _ = _;unfold mayD;simp [hg]
 clear hg
 go_wp2_with (first | (refine wp_loadAtG rfl 23 _ rfl _ _ _ rfl hgeo Tryz.underlying23 rfl (by kernel_rfl) ?_))
 refine (geoData_any G S I J _).mono ?_
 rintro e w1 ⟨rfl,hb1⟩
 have st1:=ST0.out.below (df_ne _ _ _ _) hb1
 clear ST0 hgeo c0 hb1 hg'
 have hda:=nDa_bd G S I J
 generalize nDa G S I J = da at *
 go_wp2_with fail
 go_loopw [17] (fun u wr => ∃ k:Nat,k ≤ n ∧ u = .int .i64 (k:Int) ∧ Hid (allB (fun k => okD da I (b k) (i k) (d k)) k = true) ∧ MyS w G S I J a n (df b i d) wr) (fun u _ => n - (intOf u).toNat)
 case atStart => exact ⟨0,by omega,rfl,rfl,st1⟩
 case round =>
  clear st1
  obtain ⟨k,hk,rfl,HALL,st⟩:=hrel
  by_cases hlt:k < n
  ·rcases st.r with h0 | ⟨bb,off,rfl,hsg⟩
   ·omega
   have r0:wr.cell? ⟨bb,off + k * 3,none⟩ = some (.int .i64 (b k)):=hsg k hlt 0 _ rfl
   have r1:wr.cell? ⟨bb,off + k * 3 + 1,none⟩ = some (.int .i64 (i k)):=hsg k hlt 1 _ rfl
   have r2:wr.cell? ⟨bb,off + k * 3 + 2,none⟩ = some (.int .i64 (d k)):=hsg k hlt 2 _ rfl
   have hA:=At.new wr 67 (dcells (b k) (i k) (d k))
   have d0:(wr.alloc (.cells #[.int .i64 (b k),.int .i64 (i k),.int .i64 (d k)] 67)).cell? ⟨wr.heap.size,0,none⟩ = some (.int .i64 (b k)):=hA.cell (i:=0) rfl
   have d1:(wr.alloc (.cells #[.int .i64 (b k),.int .i64 (i k),.int .i64 (d k)] 67)).cell? ⟨wr.heap.size,1,none⟩ = some (.int .i64 (i k)):=hA.cell (i:=1) rfl
   have d2:(wr.alloc (.cells #[.int .i64 (b k),.int .i64 (i k),.int .i64 (d k)] 67)).cell? ⟨wr.heap.size,2,none⟩ = some (.int .i64 (d k)):=hA.cell (i:=2) rfl
   have g2:(wr.alloc (.cells #[.int .i64 (b k),.int .i64 (i k),.int .i64 (d k)] 67)).cell? ⟨w.heap.size,2,none⟩ = some (.int .i64 I):=(st.s.alloc _).cell (i:=2) rfl
   have ST:=Lib.hid (st.below (df_ne _ _ _ _) ((Below.refl _ _).alloc (Nat.le_refl _) (.cells (dcells (b k) (i k) (d k)) 67)))
   have HK:Hid (∀ c,okD da I (b k) (i k) (d k) = c → (c = true → allB (fun k => okD da I (b k) (i k) (d k)) (k + 1) = true) ∧ (c = false → allB (fun k => okD da I (b k) (i k) (d k)) n = false)):=fun c hc =>
    ⟨fun h => by show (allB _ k && okD da I (b k) (i k) (d k)) = true;rw [HALL.out,hc,h];rfl,fun h => allB_no hlt (by rw [hc,h])⟩
   clear hsg hA st HALL
   generalize b k = x at *
   generalize i k = y at *
   generalize d k = v at *
   have hnl:(n:Int) ≤ 9223372036854775807:=hn
   by_cases h1:0 ≤ x
   rotate_left
   ·have HF:Hid (allB (fun k => okD da I (b k) (i k) (d k)) n = false):=(HK.out false (okD_no fun h => h1 (h.1))).2 rfl
    have q1:decide (x < 0) = true:=by rw [decide_eq_true_eq];omega
    go_wp2_with fail
    go_ret
    exact ⟨by rw [HD.out,HF.out];rfl,ST.out.bel⟩
   have q1:decide (x < 0) = false:=by rw [decide_eq_false_iff_not];omega
   by_cases h2:x ≤ da
   rotate_left
   ·have HF:Hid (allB (fun k => okD da I (b k) (i k) (d k)) n = false):=(HK.out false (okD_no fun h => h2 (h.2.1))).2 rfl
    have q2:decide (da < x) = true:=by rw [decide_eq_true_eq];omega
    go_wp2_with fail
    go_ret
    exact ⟨by rw [HD.out,HF.out];rfl,ST.out.bel⟩
   have q2:decide (da < x) = false:=by rw [decide_eq_false_iff_not];omega
   by_cases h3:0 ≤ y
   rotate_left
   ·have HF:Hid (allB (fun k => okD da I (b k) (i k) (d k)) n = false):=(HK.out false (okD_no fun h => h3 (h.2.2.1))).2 rfl
    have q3:decide (y < 0) = true:=by rw [decide_eq_true_eq];omega
    go_wp2_with fail
    go_ret
    exact ⟨by rw [HD.out,HF.out];rfl,ST.out.bel⟩
   have q3:decide (y < 0) = false:=by rw [decide_eq_false_iff_not];omega
   by_cases h4:y ≤ I
   rotate_left
   ·have HF:Hid (allB (fun k => okD da I (b k) (i k) (d k)) n = false):=(HK.out false (okD_no fun h => h4 (h.2.2.2.1))).2 rfl
    have q4:decide (I < y) = true:=by rw [decide_eq_true_eq];omega
    go_wp2_with fail
    go_ret
    exact ⟨by rw [HD.out,HF.out];rfl,ST.out.bel⟩
   have q4:decide (I < y) = false:=by rw [decide_eq_false_iff_not];omega
   by_cases h5:0 ≤ v
   rotate_left
   ·have HF:Hid (allB (fun k => okD da I (b k) (i k) (d k)) n = false):=(HK.out false (okD_no fun h => h5 (h.2.2.2.2.1))).2 rfl
    have q5:decide (v < 0) = true:=by rw [decide_eq_true_eq];omega
    go_wp2_with fail
    go_ret
    exact ⟨by rw [HD.out,HF.out];rfl,ST.out.bel⟩
   have q5:decide (v < 0) = false:=by rw [decide_eq_false_iff_not];omega
   by_cases h6:v ≤ I - y
   rotate_left
   ·have HF:Hid (allB (fun k => okD da I (b k) (i k) (d k)) n = false):=(HK.out false (okD_no fun h => h6 (h.2.2.2.2.2))).2 rfl
    have q6:decide (I - y < v) = true:=by rw [decide_eq_true_eq];omega
    go_wp2_with fail
    go_ret
    exact ⟨by rw [HD.out,HF.out];rfl,ST.out.bel⟩
   have q6:decide (I - y < v) = false:=by rw [decide_eq_false_iff_not];omega
   have HY:Hid (allB (fun k => okD da I (b k) (i k) (d k)) (k + 1) = true):=(HK.out true ((okD_iff _ _ _ _ _).2 ⟨h1,h2,h3,h4,h5,h6⟩)).1 rfl
   go_wp2_with fail
   go_roundw
   case rel => first | exact ⟨k + 1,by omega,by go_num,HY,ST.out⟩ | exact ⟨k + 1,by omega,rfl,HY,ST.out⟩
   case measure => simp [intOf];omega
  ·obtain rfl:k = n:=by omega
   go_wp2_with fail
   go_ret
   exact ⟨by rw [HD.out,HALL.out];rfl,st.bel⟩
def readA (z:Nat → Int):Bool:=(g32 z 0 == 827216465) && ((hd z 2 == 1) && ((hd z 3 == 256) && (sumB z && allZ (fun i => z (20 + i)) 232)))
def readE (z:Nat → Int):Int:=if readA z then (if mayG (hd z 4) (hd z 5) (hd z 6) (hd z 7) then (if g32 z 16 ≤ nIn (hd z 4) (hd z 5) (hd z 6) (hd z 7) then 0 else 60) else 50) else 60
def readV (z:Nat → Int):Value:=if readE z = 0 then sval (hd z 4) (hd z 5) (hd z 6) (hd z 7) (g32 z 16) else sval 0 0 0 0 0
theorem readV_no {z:Nat → Int} (h:readE z = 60 ∨ readE z = 50):readV z = sval 0 0 0 0 0:=by unfold readV;rw [if_neg (by omega)]
structure RS (w:World) (g:Nat) (z:Nat → Int) (W:World):Prop where
 r:At W (w.heap.size + 1) 47 (scells 0 0 0 0 0)
 p:Blk W g 117 256 z
 t:Tab W
 bel:Below w.heap.size w W
theorem RS.below {w:World} {g:Nat} {z:Nat → Int} {W W':World} (h:RS w g z W) (hb:Below W.heap.size W W'):RS w g z W' :=
 ⟨h.r.below hb h.r.lt,h.p.below hb h.p.lt,h.t.below hb (Nat.le_refl _),h.bel.trans (hb.mono h.bel.size)⟩
theorem results_sup2 {fn:Func} {p u:Tmp} (h:fn.results = #[.cell p 47,.tmp u]) (tmps:Array Value) (w:World) (g:Nat) (G S I J O:Int)
  (hp:tmps.getD p undef = .pointer (some ⟨g,0,none⟩)) (hg:At w g 47 (scells G S I J O)):(results fn tmps).run Tryz.prog w = .ok (.tuple #[sval G S I J O,tmps.getD u undef]) w :=
 results_row_tmp h tmps w g _ _ _ _ hp hg Tryz.underlying47 rfl (by kernel_rfl)
set_option maxRecDepth 100000 in
theorem build_page (z:Nat → Int) (w:World):(Instr.build 117 #[(0,bval z)]).run Tryz.prog w = .ok (.agg (Ks .u8 256 z).toArray) w:=by kernel_rfl
theorem wp_build1 {P:Program} {w:World} {ops:Array Oper} {rest:List Oper} {o:Oper} {a:Act} {Q:Exit → Act → World → Prop} (hw:Region.wanted o (yielded ops a.tmps) = true) (T:TypeId) (i:Nat) (x:Operand) (ho:o.op = .build T #[(i,x)])
  (u v:Value) (hx:a.eval x = u) (hb:(Instr.build T #[(i,u)]).run P w = .ok v w) (h:wpList P ops Q rest (a.put o.dst v) w):wpList P ops Q (o :: rest) a w :=
 BigFrame.wpList_want hw fun _ hK => by
  have hr:(execOp a.eval o).run P w = .ok (.value v) w:=by
   unfold execOp
   simp only [ho,List.map_toArray,List.map_cons,List.map_nil,hx,Sem.run_bind,hb,Result.andThen_ok,Sem.run_pure]
  unfold Oper.wp
  rw [hr]
  exact hK _ _ h
theorem all_s (G S I J O:Int):(scells G S I J O).all (·.oneCell') = true:=by kernel_rfl
theorem info_super:(Tryz.prog.info? 47).map (·.size) = some 5:=by kernel_rfl
theorem build_super (G S I J O:Int) (w:World):(Instr.build 47 #[(0,gval G S I J),(1,.int .u32 O)]).run Tryz.prog w = .ok (sval G S I J O) w:=by kernel_rfl
theorem At.blk {w:World} {g:Nat} {T:TypeId} {z:Nat → Int} (h:At w g T (Ks .u8 256 z).toArray):Blk w g T 256 z:=h
set_option maxRecDepth 100000 in
set_option maxHeartbeats 400000 in
theorem superRead_any (z:Nat → Int) (hzb:Byt z) (w:World) (hT:Tab w) :
  Calls Tryz.prog 160 #[bval z] w fun e w' => e = .returned (.tuple #[readV z,.int .i64 (readE z)]) ∧ Below w.heap.size w w':=by
 have hal:=zero_super
 have halp:=zero_page
 have hbd:=fun W => build_page z W
 have hB:Blk ((w.alloc (.cells (Ks .u8 256 z).toArray 32)).alloc (.cells (scells 0 0 0 0 0) 47)) w.heap.size 32 256 z:=(Blk.new w _ _ _).alloc _
 have hR:At ((w.alloc (.cells (Ks .u8 256 z).toArray 32)).alloc (.cells (scells 0 0 0 0 0) 47)) (w.heap.size + 1) 47 (scells 0 0 0 0 0):=by
  have:=At.new (w.alloc (.cells (Ks .u8 256 z).toArray 32)) 47 (scells 0 0 0 0 0)
  simp only [World.size_alloc] at this
  exact this
 have hP:At (((w.alloc (.cells (Ks .u8 256 z).toArray 32)).alloc (.cells (scells 0 0 0 0 0) 47)).alloc (.cells (Ks .u8 256 (fun _ => 0)).toArray 117)) (w.heap.size + 1 + 1) 117 (Ks .u8 256 (fun _ => 0)).toArray:=by
  have:=At.new ((w.alloc (.cells (Ks .u8 256 z).toArray 32)).alloc (.cells (scells 0 0 0 0 0) 47)) 117 (Ks .u8 256 (fun _ => 0)).toArray
  simp only [World.size_alloc] at this
  exact this
 have hL:Hid (Below w.heap.size w (((w.alloc (.cells (Ks .u8 256 z).toArray 32)).alloc (.cells (scells 0 0 0 0 0) 47)).alloc (.cells (Ks .u8 256 (fun _ => 0)).toArray 117))):=(((Below.refl _ _).alloc (Nat.le_refl _) _).alloc (by simp) _).alloc (by simp;omega) _
 have hTW:=Lib.hid (((hT.alloc (.cells (Ks .u8 256 z).toArray 32)).alloc (.cells (scells 0 0 0 0 0) 47)).alloc (.cells (Ks .u8 256 (fun _ => 0)).toArray 117))
 have hTl:=hT.lt
 have hR':=Lib.hid (hR.alloc (.cells (Ks .u8 256 (fun _ => 0)).toArray 117))
 clear hT hR
 go_enter Tryz.func160,Tryz.ntmps160
 go_wp2_with (first | (refine wp_loadBlkG rfl (.tmp 1) rfl w.heap.size z rfl hB ?_) | (refine wp_build1 rfl 117 0 (.tmp 6) rfl (bval z) _ rfl (hbd _) ?_) | (refine wp_storeAt rfl 117 (.tmp 4) (.tmp 7) rfl (w.heap.size + 1 + 1) (Ks .u8 256 z).toArray (Ks .u8 256 (fun _ => 0)).toArray rfl rfl hP (info_page' z) (by rw [Ks_size,Ks_size]) (Ks_one _ _ _) ?_))
 intro w1 hP1 ho1
 have st0:Hid (RS w (w.heap.size + 1 + 1) z w1):=⟨hR'.out.only ho1 (by omega),hP1.blk,hTW.out.only ho1 (by omega),hL.out.trans (ho1.below (by omega))⟩
 clear hB hP hP1 ho1 hTW hL hR' hbd
 obtain ⟨g,hg⟩:∃ g,w.heap.size + 1 + 1 = g:=⟨_,rfl⟩
 rw [hg] at st0 ⊢
 have hgl:w.heap.size + 2 ≤ g:=by omega
 clear hg
 go_wp2_with fail
 refine (pageGet4_any g z hzb 0 0 rfl (by omega) _ st0.out.p).mono ?_
 rintro e wx ⟨rfl,rfl⟩
 obtain ⟨c1,hc1⟩:∃ c,(g32 z 0 == 827216465) = c:=⟨_,rfl⟩
 have hn1:(g32 z 0 != 827216465) = !c1:=by rw [← hc1];rfl
 cases c1 with
 | false =>
  have HE:Hid (readE z = 60):=by show _ = _;unfold readE readA;rw [hc1];rfl
  have hr:=st0.out.r
  go_wp2_with (first | (refine wp_storeAt rfl 47 (.tmp 2) (.tmp 18) rfl (w.heap.size + 1) (scells 0 0 0 0 0) (scells 0 0 0 0 0) rfl rfl hr info_super rfl (all_s _ _ _ _ _) ?_))
  intro w9 hR9 ho9
  go_wp2_with fail
  exact bodyPost_ret (results_sup2 rfl _ _ (w.heap.size + 1) _ _ _ _ _ rfl hR9) rfl ⟨by rw [readV_no (by rw [HE.out];decide),HE.out];rfl,st0.out.bel.trans (ho9.below (by omega))⟩
 | true =>
 have HC1:=Lib.hid hc1
 clear hc1
 go_wp2_with fail
 clear hn1
 refine (pageGet_any g z hzb 2 4 rfl (by omega) _ st0.out.p).mono ?_
 rintro e wx ⟨rfl,rfl⟩
 obtain ⟨c2,hc2⟩:∃ c,(hd z 2 == 1) = c:=⟨_,rfl⟩
 have hn2:(hd z 2 != 1) = !c2:=by rw [← hc2];rfl
 cases c2 with
 | false =>
  have HE:Hid (readE z = 60):=by show _ = _;unfold readE readA;rw [HC1.out,hc2];rfl
  have hr:=st0.out.r
  go_wp2_with (first | (refine wp_storeAt rfl 47 (.tmp 2) (.tmp 18) rfl (w.heap.size + 1) (scells 0 0 0 0 0) (scells 0 0 0 0 0) rfl rfl hr info_super rfl (all_s _ _ _ _ _) ?_))
  intro w9 hR9 ho9
  go_wp2_with fail
  exact bodyPost_ret (results_sup2 rfl _ _ (w.heap.size + 1) _ _ _ _ _ rfl hR9) rfl ⟨by rw [readV_no (by rw [HE.out];decide),HE.out];rfl,st0.out.bel.trans (ho9.below (by omega))⟩
 | true =>
 have HC2:=Lib.hid hc2
 clear hc2
 go_wp2_with fail
 clear hn2
 refine (pageGet_any g z hzb 3 6 rfl (by omega) _ st0.out.p).mono ?_
 rintro e wx ⟨rfl,rfl⟩
 obtain ⟨c3,hc3⟩:∃ c,(hd z 3 == 256) = c:=⟨_,rfl⟩
 have hn3:(hd z 3 != 256) = !c3:=by rw [← hc3];rfl
 cases c3 with
 | false =>
  have HE:Hid (readE z = 60):=by show _ = _;unfold readE readA;rw [HC1.out,HC2.out,hc3];rfl
  have hr:=st0.out.r
  go_wp2_with (first | (refine wp_storeAt rfl 47 (.tmp 2) (.tmp 18) rfl (w.heap.size + 1) (scells 0 0 0 0 0) (scells 0 0 0 0 0) rfl rfl hr info_super rfl (all_s _ _ _ _ _) ?_))
  intro w9 hR9 ho9
  go_wp2_with fail
  exact bodyPost_ret (results_sup2 rfl _ _ (w.heap.size + 1) _ _ _ _ _ rfl hR9) rfl ⟨by rw [readV_no (by rw [HE.out];decide),HE.out];rfl,st0.out.bel.trans (ho9.below (by omega))⟩
 | true =>
 have HC3:=Lib.hid hc3
 clear hc3
 go_wp2_with fail
 clear hn3
 refine (pageSealed_any g z hzb _ st0.out.p st0.out.t).mono ?_
 rintro e w2 ⟨rfl,hb2⟩
 have st2:=Lib.hid (st0.out.below hb2)
 clear st0 hb2
 cases hc4:sumB z with
 | false =>
  have HE:Hid (readE z = 60):=by show _ = _;unfold readE readA;rw [HC1.out,HC2.out,HC3.out,hc4];rfl
  have hr:=st2.out.r
  go_wp2_with (first | (refine wp_storeAt rfl 47 (.tmp 2) (.tmp 25) rfl (w.heap.size + 1) (scells 0 0 0 0 0) (scells 0 0 0 0 0) rfl rfl hr info_super rfl (all_s _ _ _ _ _) ?_))
  intro w9 hR9 ho9
  go_wp2_with fail
  exact bodyPost_ret (results_sup2 rfl _ _ (w.heap.size + 1) _ _ _ _ _ rfl hR9) rfl ⟨by rw [readV_no (by rw [HE.out];decide),HE.out];rfl,st2.out.bel.trans (ho9.below (by omega))⟩
 | true =>
 have HC4:=Lib.hid hc4
 clear hc4
 go_wp2_with fail
 refine (pageNoughts_any g z 20 252 20 252 rfl rfl (by omega) (by omega) (by omega) _ st2.out.p).mono ?_
 rintro e wx ⟨rfl,rfl⟩
 rw [show 252 - 20 = 232 from rfl]
 cases hc5:allZ (fun i => z (20 + i)) 232 with
 | false =>
  have HE:Hid (readE z = 60):=by show _ = _;unfold readE readA;rw [HC1.out,HC2.out,HC3.out,HC4.out,hc5];rfl
  have hr:=st2.out.r
  go_wp2_with (first | (refine wp_storeAt rfl 47 (.tmp 2) (.tmp 25) rfl (w.heap.size + 1) (scells 0 0 0 0 0) (scells 0 0 0 0 0) rfl rfl hr info_super rfl (all_s _ _ _ _ _) ?_))
  intro w9 hR9 ho9
  go_wp2_with fail
  exact bodyPost_ret (results_sup2 rfl _ _ (w.heap.size + 1) _ _ _ _ _ rfl hR9) rfl ⟨by rw [readV_no (by rw [HE.out];decide),HE.out];rfl,st2.out.bel.trans (ho9.below (by omega))⟩
 | true =>
 have HRA:Hid (readA z = true):=by show _ = _;unfold readA;rw [HC1.out,HC2.out,HC3.out,HC4.out,hc5];rfl
 clear hc5 HC1 HC2 HC3 HC4
 go_wp2_with fail
 refine (getGeo_any g z hzb _ st2.out.p).mono ?_
 rintro e w3 ⟨rfl,hb3⟩
 have st3:=Lib.hid (st2.out.below hb3)
 clear st2 hb3
 go_wp2_with fail
 refine (pageGet4_any g z hzb 16 16 rfl (by omega) _ st3.out.p).mono ?_
 rintro e wx ⟨rfl,rfl⟩
 have hbs:=fun W => build_super (hd z 4) (hd z 5) (hd z 6) (hd z 7) (g32 z 16) W
 have ho:=g32_bd hzb 16
 have HDEF:Hid (readE z = if mayG (hd z 4) (hd z 5) (hd z 6) (hd z 7) then (if g32 z 16 ≤ nIn (hd z 4) (hd z 5) (hd z 6) (hd z 7) then 0 else 60) else 50):=by show _ = _;unfold readE;rw [HRA.out];rfl
 have HDV:Hid (readE z = 0 → readV z = sval (hd z 4) (hd z 5) (hd z 6) (hd z 7) (g32 z 16)):=fun h => by unfold readV;rw [if_pos h]
 generalize hd z 4 = G at *
 generalize hd z 5 = S at *
 generalize hd z 6 = I at *
 generalize hd z 7 = J at *
 generalize g32 z 16 = O at *
 have hS4:=At.new w3 47 (scells G S I J O)
 have st4:=Lib.hid (st3.out.below ((Below.refl _ _).alloc (Nat.le_refl _) (.cells (scells G S I J O) 47)))
 have hgeo:=hS4.geo
 have hgl3:w.heap.size + 2 ≤ w3.heap.size:=by have:=st3.out.r.lt;omega
 clear st3
 go_wp2_with (first | (refine wp_loadRange rfl 23 _ rfl w3.heap.size 0 (gcells G S I J).toList _ rfl hgeo Tryz.underlying23 rfl (by kernel_rfl) ?_))
 clear hgeo hbs
 refine (geoMay_any G S I J _).mono ?_
 rintro e w5 ⟨rfl,hb5⟩
 have st5:=Lib.hid (st4.out.below hb5)
 have hS5:=hS4.below hb5 hS4.lt
 clear st4 hS4 hb5
 cases hm:mayG G S I J with
 | false =>
  have HE:Hid (readE z = 50):=by show _ = _;rw [HDEF.out,hm];rfl
  have hr:=st5.out.r
  go_wp2_with (first | (refine wp_storeAt rfl 47 (.tmp 2) (.tmp 34) rfl (w.heap.size + 1) (scells 0 0 0 0 0) (scells 0 0 0 0 0) rfl rfl hr info_super rfl (all_s _ _ _ _ _) ?_))
  intro w9 hR9 ho9
  go_wp2_with fail
  exact bodyPost_ret (results_sup2 rfl _ _ (w.heap.size + 1) _ _ _ _ _ rfl hR9) rfl ⟨by rw [readV_no (by rw [HE.out];decide),HE.out];rfl,st5.out.bel.trans (ho9.below (by omega))⟩
 | true =>
 have HM:=Lib.hid hm
 clear hm
 go_wp2_with (first | (refine wp_loadAtG rfl 47 _ rfl _ _ _ rfl hS5 Tryz.underlying47 rfl (by kernel_rfl) ?_))
 refine (orphaned_any G S I J O ho _).mono ?_
 rintro e w6 ⟨rfl,hb6⟩
 have st6:=Lib.hid (st5.out.below hb6)
 have hS6:=hS5.below hb6 hS5.lt
 clear st5 hS5 hb6
 cases hor:decide (O ≤ nIn G S I J) with
 | false =>
  have HE:Hid (readE z = 60):=by show _ = _;rw [HDEF.out,HM.out,if_pos rfl,if_neg (by simpa using hor)]
  have hr:=st6.out.r
  go_wp2_with (first | (refine wp_storeAt rfl 47 (.tmp 2) (.tmp 38) rfl (w.heap.size + 1) (scells 0 0 0 0 0) (scells 0 0 0 0 0) rfl rfl hr info_super rfl (all_s _ _ _ _ _) ?_))
  intro w9 hR9 ho9
  go_wp2_with fail
  exact bodyPost_ret (results_sup2 rfl _ _ (w.heap.size + 1) _ _ _ _ _ rfl hR9) rfl ⟨by rw [readV_no (by rw [HE.out];decide),HE.out];rfl,st6.out.bel.trans (ho9.below (by omega))⟩
 | true =>
 have HE:Hid (readE z = 0):=by show _ = _;rw [HDEF.out,HM.out,if_pos rfl,if_pos (by simpa using hor)]
 clear hor
 have hr:=st6.out.r
 go_wp2_with (first | (refine wp_loadAtG rfl 47 (.tmp 5) rfl _ _ _ rfl hS6 Tryz.underlying47 rfl (by kernel_rfl) ?_) | (refine wp_storeAt rfl 47 (.tmp 2) (.tmp 39) rfl (w.heap.size + 1) (scells G S I J O) (scells 0 0 0 0 0) rfl rfl hr info_super rfl (all_s _ _ _ _ _) ?_))
 intro w9 hR9 ho9
 go_wp2_with fail
 exact bodyPost_ret (results_sup2 rfl _ _ (w.heap.size + 1) _ _ _ _ _ rfl hR9) rfl ⟨by rw [HDV.out HE.out,HE.out];rfl,st6.out.bel.trans (ho9.below (by omega))⟩
def dH (b i d:Nat → Int):Nat → Nat → Int
 | 0 => fun _ => 0
 | k + 1 => upd (upd (upd (dH b i d k) (4 * k) (b k)) (4 * k + 1) (i k)) (4 * k + 2) (d k)
def descOk (G S I J:Int) (n:Nat) (b i d:Nat → Int):Bool:=mayG G S I J && mayD G S I J n b i d
def descE (G S I J:Int) (n:Nat) (b i d:Nat → Int):Int:=if mayG G S I J then (if mayD G S I J n b i d then 0 else 2) else 50
def descZ (G S I J:Int) (n:Nat) (b i d:Nat → Int):Nat → Int:=if descOk G S I J n b i d then sealZ (hz (dH b i d n)) else fun _ => 0
theorem mayD_iff {G S I J:Int} {n:Nat} {b i d:Nat → Int} (hm:mayG G S I J = true) (h:mayD G S I J n b i d = true):(n:Int) = G ∧ n ≤ 4 ∧ ∀ k,k < n → (0 ≤ b k ∧ b k ≤ 512) ∧ (0 ≤ i k ∧ i k ≤ 64) ∧ (0 ≤ d k ∧ d k ≤ 64):=by
 unfold mayD at h
 rw [Bool.and_eq_true,decide_eq_true_eq,allB_iff] at h
 obtain ⟨h1,h2,h3,h4,h5,h6,h7,h8,h9,h10,h11⟩:=(mayG_iff G S I J).1 hm
 have:=nDa_bd G S I J
 refine ⟨h.1,by omega,fun k hk => ?_⟩
 have:=(okD_iff _ _ _ _ _).1 (h.2 k hk)
 omega
def b8 (a b c d e f g h:Bool):Nat:=a.toNat + 2 * b.toNat + 4 * c.toNat + 8 * d.toNat + 16 * e.toNat + 32 * f.toNat + 64 * g.toNat + 128 * h.toNat
def by8 (P:Nat → Bool) (k:Nat):Nat:=b8 (P (8 * k)) (P (8 * k + 1)) (P (8 * k + 2)) (P (8 * k + 3)) (P (8 * k + 4)) (P (8 * k + 5)) (P (8 * k + 6)) (P (8 * k + 7))
def bZ (P:Nat → Bool) (k:Nat):Int:=(by8 P k:Nat)
theorem b8_lt:∀ a b c d e f g h:Bool,b8 a b c d e f g h < 256:=by decide
theorem by8_lt (P:Nat → Bool) (k:Nat):by8 P k < 256:=b8_lt _ _ _ _ _ _ _ _
theorem bZ_byt (P:Nat → Bool):Byt (bZ P):=fun i => by have:=by8_lt P i;unfold bZ;omega
def setB (P:Nat → Bool) (i:Nat):Nat → Bool:=fun j => if j = i then true else P j
theorem or0:∀ a b c d e f g h:Bool,b8 a b c d e f g h ||| 1 = b8 true b c d e f g h:=by decide
theorem or1:∀ a b c d e f g h:Bool,b8 a b c d e f g h ||| 2 = b8 a true c d e f g h:=by decide
theorem or2:∀ a b c d e f g h:Bool,b8 a b c d e f g h ||| 4 = b8 a b true d e f g h:=by decide
theorem or3:∀ a b c d e f g h:Bool,b8 a b c d e f g h ||| 8 = b8 a b c true e f g h:=by decide
theorem or4:∀ a b c d e f g h:Bool,b8 a b c d e f g h ||| 16 = b8 a b c d true f g h:=by decide
theorem or5:∀ a b c d e f g h:Bool,b8 a b c d e f g h ||| 32 = b8 a b c d e true g h:=by decide
theorem or6:∀ a b c d e f g h:Bool,b8 a b c d e f g h ||| 64 = b8 a b c d e f true h:=by decide
theorem or7:∀ a b c d e f g h:Bool,b8 a b c d e f g h ||| 128 = b8 a b c d e f g true:=by decide
theorem an0:∀ a b c d e f g h:Bool,(b8 a b c d e f g h &&& 1) = 1 * a.toNat:=by decide
theorem an1:∀ a b c d e f g h:Bool,(b8 a b c d e f g h &&& 2) = 2 * b.toNat:=by decide
theorem an2:∀ a b c d e f g h:Bool,(b8 a b c d e f g h &&& 4) = 4 * c.toNat:=by decide
theorem an3:∀ a b c d e f g h:Bool,(b8 a b c d e f g h &&& 8) = 8 * d.toNat:=by decide
theorem an4:∀ a b c d e f g h:Bool,(b8 a b c d e f g h &&& 16) = 16 * e.toNat:=by decide
theorem an5:∀ a b c d e f g h:Bool,(b8 a b c d e f g h &&& 32) = 32 * f.toNat:=by decide
theorem an6:∀ a b c d e f g h:Bool,(b8 a b c d e f g h &&& 64) = 64 * g.toNat:=by decide
theorem an7:∀ a b c d e f g h:Bool,(b8 a b c d e f g h &&& 128) = 128 * h.toNat:=by decide
theorem by8_or (P:Nat → Bool) (k j:Nat) (hj:j < 8):by8 P k ||| 2 ^ j = by8 (setB P (8 * k + j)) k:=by
 have hS:∀ m,m < 8 → setB P (8 * k + j) (8 * k + m) = if m = j then true else P (8 * k + m):=fun m hm => by
  unfold setB
  by_cases e:m = j
  ·rw [if_pos e,if_pos (by omega)]
  ·rw [if_neg e,if_neg (by omega)]
 have h0:=hS 0 (by omega)
 rw [Nat.add_zero] at h0
 unfold by8
 rw [h0,hS 1 (by omega),hS 2 (by omega),hS 3 (by omega),hS 4 (by omega),hS 5 (by omega),hS 6 (by omega),hS 7 (by omega)]
 have:j = 0 ∨ j = 1 ∨ j = 2 ∨ j = 3 ∨ j = 4 ∨ j = 5 ∨ j = 6 ∨ j = 7:=by omega
 rcases this with rfl | rfl | rfl | rfl | rfl | rfl | rfl | rfl
 ·exact or0 _ _ _ _ _ _ _ _
 ·exact or1 _ _ _ _ _ _ _ _
 ·exact or2 _ _ _ _ _ _ _ _
 ·exact or3 _ _ _ _ _ _ _ _
 ·exact or4 _ _ _ _ _ _ _ _
 ·exact or5 _ _ _ _ _ _ _ _
 ·exact or6 _ _ _ _ _ _ _ _
 ·exact or7 _ _ _ _ _ _ _ _
theorem by8_and (P:Nat → Bool) (k j:Nat) (hj:j < 8):by8 P k &&& 2 ^ j = 2 ^ j * (P (8 * k + j)).toNat:=by
 unfold by8
 have:j = 0 ∨ j = 1 ∨ j = 2 ∨ j = 3 ∨ j = 4 ∨ j = 5 ∨ j = 6 ∨ j = 7:=by omega
 rcases this with rfl | rfl | rfl | rfl | rfl | rfl | rfl | rfl
 ·exact an0 _ _ _ _ _ _ _ _
 ·exact an1 _ _ _ _ _ _ _ _
 ·exact an2 _ _ _ _ _ _ _ _
 ·exact an3 _ _ _ _ _ _ _ _
 ·exact an4 _ _ _ _ _ _ _ _
 ·exact an5 _ _ _ _ _ _ _ _
 ·exact an6 _ _ _ _ _ _ _ _
 ·exact an7 _ _ _ _ _ _ _ _
theorem by8_other (P:Nat → Bool) {i k:Nat} (h:k ≠ i / 8):by8 (setB P i) k = by8 P k:=by
 unfold by8 setB
 rw [if_neg (by omega),if_neg (by omega),if_neg (by omega),if_neg (by omega),if_neg (by omega),if_neg (by omega),if_neg (by omega),if_neg (by omega)]
theorem bZ_none (k:Nat):bZ (fun _ => false) k = 0:=rfl
theorem bitIs_any (i:Nat) (hi:i < 2048) (w:World):Calls Tryz.prog 53 #[.int .i64 (i:Int)] w fun e w' => e = .returned (.bool true) ∧ w = w':=by
 have h1:(i:Int) < 2048:=by omega
 have h2:decide ((i:Int) < 2048) = true:=decide_eq_true h1
 have h0:(0:Int) ≤ (i:Int):=by omega
 have h3:decide ((0:Int) ≤ (i:Int)) = true:=decide_eq_true h0
 go_enter Tryz.func53,Tryz.ntmps53
 go_wp2_with fail
 go_ret
 exact ⟨rfl,rfl⟩
theorem u8_pow (j:Nat) (hj:j < 8):(2:Int) ^ j % 256 = ((2 ^ j:Nat):Int):=by
 have:j = 0 ∨ j = 1 ∨ j = 2 ∨ j = 3 ∨ j = 4 ∨ j = 5 ∨ j = 6 ∨ j = 7:=by omega
 rcases this with rfl | rfl | rfl | rfl | rfl | rfl | rfl | rfl <;> rfl
theorem bitMask_any (i:Nat) (hi:i < 2048) (w:World):Calls Tryz.prog 54 #[.int .i64 (i:Int)] w fun e w' => e = .returned (.int .u8 ((2 ^ (i % 8):Nat):Int)) ∧ w = w':=by
 have h0:(i:Int).tmod 8 = (i:Int) % 8:=Int.tmod_eq_emod_of_nonneg (by omega)
 have hq:=u8_pow (i % 8) (Nat.mod_lt _ (by decide))
 have HQ:=Lib.hid hq
 clear hq
 go_enter Tryz.func54,Tryz.ntmps54
 go_wp2_with fail
 go_ret
 exact ⟨by rw [← HQ.out];rfl,rfl⟩
theorem pow_lt8 (i:Nat):2 ^ (i % 8) < 256:=by
 have:i % 8 = 0 ∨ i % 8 = 1 ∨ i % 8 = 2 ∨ i % 8 = 3 ∨ i % 8 = 4 ∨ i % 8 = 5 ∨ i % 8 = 6 ∨ i % 8 = 7:=by omega
 rcases this with h | h | h | h | h | h | h | h <;> (rw [h];decide)
def mapB (used size:Nat) (i:Nat):Bool:=decide (i < used) || (decide (size ≤ i) && decide (i < 2048))
def preB (n:Nat) (i:Nat):Bool:=decide (i < n)
end Go.Proofs.YtnbmmhoofilmfaaGreatDoor
