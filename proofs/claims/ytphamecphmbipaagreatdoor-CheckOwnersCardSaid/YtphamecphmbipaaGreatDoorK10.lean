/- Texts of this claim, merged by a program (a claim may have 60 files): U6b, U6c, U6e, U6f, BitP, Bits, R4. -/
import Derived.Test.YtphamecphmbipaaGreatDoorK08
import Derived.Test.YtphamecphmbipaaGreatDoorK05
import Derived.Test.YtphamecphmbipaaGreatDoorK06
import Derived.Test.YtphamecphmbipaaGreatDoorK02
import Derived.Test.YtphamecphmbipaaGreatDoorK09
import Derived.Test.YtphamecphmbipaaGreatDoorK04
import Derived.Laws.BitsAllLaws
namespace Go.Proofs.YtphamecphmbipaaGreatDoor
open Go.RowKit
set_option linter.unusedVariables false
abbrev sval (G S I J O:Int):Value:=.agg #[.int .i64 G,.int .i64 S,.int .i64 I,.int .i64 J,.int .u32 O]
abbrev scells (G S I J O:Int):Array Value:=#[.int .i64 G,.int .i64 S,.int .i64 I,.int .i64 J,.int .u32 O]
abbrev dval (B I D:Int):Value:=.agg #[.int .i64 B,.int .i64 I,.int .i64 D]
abbrev dcells (B I D:Int):Array Value:=#[.int .i64 B,.int .i64 I,.int .i64 D]
theorem zero_geo (W:World):(zeroValue 23).run Tryz.prog W = .ok (gval 0 0 0 0) W:=by kernel_rfl
theorem zero_super (W:World):(zeroValue 47).run Tryz.prog W = .ok (sval 0 0 0 0 0) W:=by kernel_rfl
theorem zero_desc (W:World):(zeroValue 67).run Tryz.prog W = .ok (dval 0 0 0) W:=by kernel_rfl
set_option maxRecDepth 100000 in
set_option maxHeartbeats 2000000 in
theorem getGeo_any (g:Nat) (z:Nat → Int) (hzb:Byt z) (w:World) {T:TypeId} (hB:Blk w g T 256 z) :
  Calls Tryz.prog 156 #[getFn g] w fun e w' => e = .returned (gval (hd z 4) (hd z 5) (hd z 6) (hd z 7)) ∧ Below w.heap.size w w':=by
 have hal:=zero_geo
 have HA:=Lib.hid (At.new w 23 (gcells 0 0 0 0))
 have HL:Hid (Below w.heap.size w (w.alloc (.cells (gcells 0 0 0 0) 23))):=(Below.refl _ _).alloc (Nat.le_refl _) _
 have HG:Hid (∀ (W:World) (k:Nat) (K:Int),Blk W g T 256 z → K = 2 * (k:Int) → k < 128 → Calls Tryz.prog 42 #[.pointer (some ⟨g,0,none⟩),.int .i64 K] W fun e w' => e = .returned (.int .i64 (hd z k)) ∧ W = w') :=
  fun W k K hB hK hk => pageGet_any g z hzb k K hK hk W hB
 have HB:=Lib.hid (hB.alloc (.cells (gcells 0 0 0 0) 23))
 clear hB
 go_enter Tryz.func156,Tryz.ntmps156
 go_wp2_with fail
 refine (HG.out _ 4 8 HB.out rfl (by omega)).mono ?_
 rintro e w1 ⟨rfl,rfl⟩
 go_wp2_with fail
 refine (HG.out _ 5 10 HB.out rfl (by omega)).mono ?_
 rintro e w1 ⟨rfl,rfl⟩
 go_wp2_with fail
 refine (HG.out _ 6 12 HB.out rfl (by omega)).mono ?_
 rintro e w1 ⟨rfl,rfl⟩
 go_wp2_with fail
 refine (HG.out _ 7 14 HB.out rfl (by omega)).mono ?_
 rintro e w1 ⟨rfl,rfl⟩
 go_wp2_with fail
 exact bodyPost_ret (results_row rfl _ _ _ _ _ _ _ rfl (At.new w 23 (gcells (hd z 4) (hd z 5) (hd z 6) (hd z 7))) Tryz.underlying23 rfl (by kernel_rfl)) rfl ⟨rfl,(Below.refl _ _).alloc (Nat.le_refl _) _⟩
set_option maxRecDepth 100000 in
set_option maxHeartbeats 2000000 in
theorem getDesc_any (g:Nat) (z:Nat → Int) (hzb:Byt z) (k:Nat) (K:Int) (hK:K = 8 * (k:Int)) (hk:k < 31) (w:World) {T:TypeId} (hB:Blk w g T 256 z) :
  Calls Tryz.prog 41 #[.int .i64 K,getFn g] w fun e w' => e = .returned (dval (hd z (4 * k)) (hd z (4 * k + 1)) (hd z (4 * k + 2))) ∧ Below w.heap.size w w':=by
 have hal:=zero_desc
 have HA:=Lib.hid (At.new w 67 (dcells 0 0 0))
 have HL:Hid (Below w.heap.size w (w.alloc (.cells (dcells 0 0 0) 67))):=(Below.refl _ _).alloc (Nat.le_refl _) _
 have HG:Hid (∀ (W:World) (j:Nat) (K':Int),Blk W g T 256 z → K' = K + 2 * (j:Int) → j < 3 → Calls Tryz.prog 42 #[.pointer (some ⟨g,0,none⟩),.int .i64 K'] W fun e w' => e = .returned (.int .i64 (hd z (4 * k + j))) ∧ W = w') :=
  fun W j K' hB hK' hj => pageGet_any g z hzb (4 * k + j) K' (by omega) (by omega) W hB
 have HB:=Lib.hid (hB.alloc (.cells (dcells 0 0 0) 67))
 have hKb:0 ≤ K ∧ K < 250:=by omega
 clear hB hK
 go_enter Tryz.func41,Tryz.ntmps41
 go_wp2_with fail
 refine (HG.out _ 0 K HB.out (by omega) (by omega)).mono ?_
 rintro e w1 ⟨rfl,rfl⟩
 go_wp2_with fail
 refine (HG.out _ 1 (K + 2) HB.out (by omega) (by omega)).mono ?_
 rintro e w1 ⟨rfl,rfl⟩
 go_wp2_with fail
 refine (HG.out _ 2 (K + 4) HB.out (by omega) (by omega)).mono ?_
 rintro e w1 ⟨rfl,rfl⟩
 go_wp2_with fail
 exact bodyPost_ret (results_row rfl _ _ _ _ _ _ _ rfl (At.new w 67 (dcells (hd z (4 * k)) (hd z (4 * k + 1)) (hd z (4 * k + 2)))) Tryz.underlying67 rfl (by kernel_rfl)) rfl ⟨rfl,(Below.refl _ _).alloc (Nat.le_refl _) _⟩
structure OrS (w:World) (G S I J O:Int) (W:World):Prop where
 s:At W w.heap.size 47 (scells G S I J O)
 bel:Below w.heap.size w W
set_option maxRecDepth 100000 in
set_option maxHeartbeats 2000000 in
theorem orphaned_any (G S I J O:Int) (hO:0 ≤ O ∧ O < 4294967296) (w:World) :
  Calls Tryz.prog 157 #[sval G S I J O] w fun e w' => e = .returned (.bool (decide (O ≤ nIn G S I J))) ∧ Below w.heap.size w w':=by
 have hA:At (w.alloc (.cells (scells G S I J O) 47)) w.heap.size 47 (scells G S I J O):=At.new _ _ _
 have hL:Below w.heap.size w (w.alloc (.cells (scells G S I J O) 47)):=(Below.refl _ _).alloc (Nat.le_refl _) _
 have hwr:O % 18446744073709551616 = O:=by omega
 have hb:=nIn_bd G S I J
 have HN:Hid (∀ W,Calls Tryz.prog 23 #[gval G S I J] W fun e w' => e = .returned (.int .i64 (nIn G S I J)) ∧ Below W.heap.size W w'):=fun W => geoInodes_any G S I J W
 generalize nIn G S I J = n at *
 have hwn:n % 18446744073709551616 = n:=by omega
 go_enter Tryz.func157,Tryz.ntmps157
 go_wp2_with fail
 have hkeep:Hid (∀ W W',OrS w G S I J O W → Below W.heap.size W W' → OrS w G S I J O W'):=fun W W' h hb => ⟨h.s.below hb h.s.lt,h.bel.trans (hb.mono h.bel.size)⟩
 refine wp_region_S (OrS w G S I J O) (by kernel_rfl) (by kernel_rfl) ⟨hA,hL.drew⟩ ?_
 clear hA hL
 intro hne
 have hc:∀ s:InW (OrS w G S I J O),s.W.cell? ⟨w.heap.size,4,none⟩ = some (.int .u32 O):=fun s => s.h.s.cell (i:=4) rfl
 first | go_big_quiet_skip | (go_big_quiet_want;go_big_quiet_op;go_big_quiet_on)
 first | go_big_quiet_skip | (go_big_quiet_want;go_big_quiet_op;go_big_quiet_on)
 first | go_big_quiet_skip | (go_big_quiet_want;go_big_quiet_op;go_big_quiet_on)
 first | go_big_quiet_skip | (go_big_quiet_want;go_big_quiet_op;go_big_quiet_on)
 refine q_load rfl 23 (.tmp 6) rfl w.heap.size 0 rfl (gcells G S I J).toList _ (fun W h j v hj => ?_) Tryz.underlying23 rfl (by kernel_rfl) ?_
 ·have hj4:j < 4:=(List.getElem?_eq_some_iff.1 hj).1
  refine h.s.cell (i:=0 + j) ?_
  rw [Nat.zero_add,← hj]
  obtain rfl | rfl | rfl | rfl:j = 0 ∨ j = 1 ∨ j = 2 ∨ j = 3:=by omega
  all_goals rfl
 refine wpQuiet_frame (by simp only [Act.put,List.setIfInBounds_toArray,List.set_cons_succ,List.set_cons_zero];exact rfl) ?_
 go_big_quiet_want
 go_big_quiet_op
 refine ⟨_,fun s => q_call s (fun W hW => (HN.out W).mono fun e w' h => ⟨h.1,hkeep.out W w' hW h.2⟩),?_⟩
 go_big_quiet_on
 repeat (first | go_big_quiet_skip | (go_big_quiet_want;go_big_quiet_op;go_big_quiet_on))
 refine wpQuiet_nil ?_
 intro w5 h5
 have hL5:Below w.heap.size w w5:=h5.out.bel
 clear h5 hne
 go_wp2_with fail
 go_ret
 exact ⟨rfl,hL5⟩
def supH (G S I J O:Int):Nat → Int:=upd2 (geoH (upd (upd (upd2 (fun _ => 0) 0 827216465) 2 1) 3 256) G S I J) 8 O
def supOk (G S I J O:Int):Bool:=mayG G S I J && decide (O ≤ nIn G S I J)
def supE (G S I J O:Int):Int:=if mayG G S I J then (if O ≤ nIn G S I J then 0 else 2) else 50
def supZ (G S I J O:Int):Nat → Int:=if supOk G S I J O then sealZ (hz (supH G S I J O)) else fun _ => 0
theorem At.geo {w:World} {g:Nat} {T:TypeId} {G S I J O:Int} (h:At w g T (scells G S I J O)):w.rangeAt g 0 (gcells G S I J).toList:=fun j v hj => by
 have hj4:j < 4:=(List.getElem?_eq_some_iff.1 hj).1
 refine h.cell (i:=0 + j) ?_
 rw [Nat.zero_add,← hj]
 obtain rfl | rfl | rfl | rfl:j = 0 ∨ j = 1 ∨ j = 2 ∨ j = 3:=by omega
 all_goals rfl
theorem wp_loadRange {P:Program} {w:World} {ops:Array Oper} {rest:List Oper} {o:Oper} {a:Act} {Q:Exit → Act → World → Prop} (hw:Region.wanted o (yielded ops a.tmps) = true) (T:TypeId) (p:Operand) (ho:o.op = .load T p)
  (g off:Nat) (cs:List Value) (d:TypeDesc) (hx:a.eval p = .pointer (some ⟨g,off,none⟩)) (hI:w.rangeAt g off cs) (hu:P.underlying T = some d) (hd:d.isRow = true) (hi:(P.info? T).map (·.size) = some cs.length)
  (h:wpList P ops Q rest (a.put o.dst (.agg cs.toArray)) w):wpList P ops Q (o :: rest) a w :=
 BigFrame.wpList_want hw fun _ hK => wp_load_mid T p ho g off hx cs d hI hu hd hi (hK _ _ h)
def df (B I D:Nat → Int) (i:Nat):List Value:=[.int .i64 (B i),.int .i64 (I i),.int .i64 (D i)]
theorem df_len (B I D:Nat → Int) (i:Nat):(df B I D i).length = 3:=rfl
theorem df_ne (B I D:Nat → Int) (i:Nat):df B I D i ≠ []:=by intro h;cases h
theorem df_one (B I D:Nat → Int) (i:Nat):∀ v ∈ df B I D i,v.oneCell' = true:=by
 intro v hv
 simp only [df,List.mem_cons,List.not_mem_nil,or_false] at hv
 rcases hv with rfl | rfl | rfl <;> rfl
def okD (da im b i d:Int):Bool:=decide (0 ≤ b ∧ b ≤ da ∧ 0 ≤ i ∧ i ≤ im ∧ 0 ≤ d ∧ d ≤ im - i)
theorem okD_iff (da im b i d:Int):okD da im b i d = true ↔ 0 ≤ b ∧ b ≤ da ∧ 0 ≤ i ∧ i ≤ im ∧ 0 ≤ d ∧ d ≤ im - i:=by unfold okD;exact decide_eq_true_iff
theorem okD_no {da im b i d:Int} (h:¬ (0 ≤ b ∧ b ≤ da ∧ 0 ≤ i ∧ i ≤ im ∧ 0 ≤ d ∧ d ≤ im - i)):okD da im b i d = false:=by unfold okD;exact decide_eq_false h
def allB (p:Nat → Bool):Nat → Bool
 | 0 => true
 | n + 1 => allB p n && p n
theorem allB_iff (p:Nat → Bool) (n:Nat):allB p n = true ↔ ∀ i,i < n → p i = true:=by
 induction n with
 | zero => simp [allB]
 | succ n ih =>
  unfold allB
  rw [Bool.and_eq_true,ih]
  constructor
  ·rintro ⟨h,g⟩ i hi
   by_cases e:i = n
   ·rw [e];exact g
   ·exact h i (by omega)
  ·intro h;exact ⟨fun i hi => h i (by omega),h n (by omega)⟩
theorem allB_no {p:Nat → Bool} {n j:Nat} (hj:j < n) (h:p j = false):allB p n = false:=by
 cases e:allB p n with
 | false => rfl
 | true => have:=(allB_iff p n).1 e j hj;rw [h] at this;cases this
def mayD (G S I J:Int) (n:Nat) (b i d:Nat → Int):Bool:=decide ((n:Int) = G) && allB (fun k => okD (nDa G S I J) I (b k) (i k) (d k)) n
structure MyS (w:World) (G S I J:Int) (a:Option Addr) (n:Nat) (f:Nat → List Value) (W:World):Prop where
 s:At W w.heap.size 23 (gcells G S I J)
 r:RRow W a 3 n f
 bel:Below w.heap.size w W
theorem MyS.below {w:World} {G S I J:Int} {a:Option Addr} {n:Nat} {f:Nat → List Value} {W W':World} (h:MyS w G S I J a n f W) (hf:f 0 ≠ []) (hb:Below W.heap.size W W'):MyS w G S I J a n f W' :=
 ⟨h.s.below hb h.s.lt,h.r.below hf hb,h.bel.trans (hb.mono h.bel.size)⟩
theorem info_desc:(Tryz.prog.info? 67).map (·.size) = some 3:=by kernel_rfl
set_option maxRecDepth 100000 in
set_option maxHeartbeats 600000 in
theorem superMay_any (G S I J:Int) (hm:mayG G S I J = true) (a:Option Addr) (n cap:Nat) (b i d:Nat → Int) (hn:(n:Int) ≤ 9223372036854775807) (w:World) (hr:RRow w a 3 n (df b i d)) :
  Calls Tryz.prog 43 #[gval G S I J,.slice a n cap] w fun e w' => e = .returned (.bool (mayD G S I J n b i d)) ∧ Below w.heap.size w w':=by
 have st0:MyS w G S I J a n (df b i d) (w.alloc (.cells (gcells G S I J) 23)):=⟨At.new _ _ _,hr.below (df_ne _ _ _ _) ((Below.refl _ _).alloc (Nat.le_refl _) _),(Below.refl _ _).alloc (Nat.le_refl _) _⟩
 have hI:4 ≤ I ∧ I ≤ 64:=by
  obtain ⟨h1,h2,h3,h4,h5,h6,h7,h8,h9,h10,h11⟩:=(mayG_iff G S I J).1 hm
  exact ⟨h5,h6⟩
 have c0:(w.alloc (.cells #[.int .i64 G,.int .i64 S,.int .i64 I,.int .i64 J] 23)).cell? ⟨w.heap.size,0,none⟩ = some (.int .i64 G):=st0.s.cell (i:=0) rfl
 have hgeo:=st0.s
 have ST0:=Lib.hid st0
 clear st0 hr hm
 go_enter Tryz.func43,Tryz.ntmps43
 by_cases hg:(n:Int) = G
 rotate_left
 ·have hg':((n:Int) != G) = true:=by simpa using hg
  have HN:Hid (mayD G S I J n b i d = false):=by show _ = _;unfold mayD;simp [hg]
  clear hg
  go_wp2_with fail
  go_ret
  exact ⟨by rw [HN.out];rfl,ST0.out.bel⟩
 have hg':((n:Int) != G) = false:=by simpa using hg
 have HD:Hid (mayD G S I J n b i d = allB (fun k => okD (nDa G S I J) I (b k) (i k) (d k)) n):=by show _ = _;unfold mayD;simp [hg]
 clear hg
 go_wp2_with (first | (refine wp_loadAtG rfl 23 _ rfl _ _ _ rfl hgeo Tryz.underlying23 rfl (by kernel_rfl) ?_))
 refine (geoData_any G S I J _).mono ?_
 rintro e w1 ⟨rfl,hb1⟩
 have st1:=ST0.out.below (df_ne _ _ _ _) hb1
 clear ST0 hgeo c0 hb1 hg'
 have hda:=nDa_bd G S I J
 generalize nDa G S I J = da at *
 go_wp2_with fail
 go_loopw [17] (fun u wr => ∃ k:Nat,k ≤ n ∧ u = .int .i64 (k:Int) ∧ Hid (allB (fun k => okD da I (b k) (i k) (d k)) k = true) ∧ MyS w G S I J a n (df b i d) wr) (fun u _ => n - (intOf u).toNat)
 case atStart => exact ⟨0,by omega,rfl,rfl,st1⟩
 case round =>
  clear st1
  obtain ⟨k,hk,rfl,HALL,st⟩:=hrel
  by_cases hlt:k < n
  ·rcases st.r with h0 | ⟨bb,off,rfl,hsg⟩
   ·omega
   have r0:wr.cell? ⟨bb,off + k * 3,none⟩ = some (.int .i64 (b k)):=hsg k hlt 0 _ rfl
   have r1:wr.cell? ⟨bb,off + k * 3 + 1,none⟩ = some (.int .i64 (i k)):=hsg k hlt 1 _ rfl
   have r2:wr.cell? ⟨bb,off + k * 3 + 2,none⟩ = some (.int .i64 (d k)):=hsg k hlt 2 _ rfl
   have hA:=At.new wr 67 (dcells (b k) (i k) (d k))
   have d0:(wr.alloc (.cells #[.int .i64 (b k),.int .i64 (i k),.int .i64 (d k)] 67)).cell? ⟨wr.heap.size,0,none⟩ = some (.int .i64 (b k)):=hA.cell (i:=0) rfl
   have d1:(wr.alloc (.cells #[.int .i64 (b k),.int .i64 (i k),.int .i64 (d k)] 67)).cell? ⟨wr.heap.size,1,none⟩ = some (.int .i64 (i k)):=hA.cell (i:=1) rfl
   have d2:(wr.alloc (.cells #[.int .i64 (b k),.int .i64 (i k),.int .i64 (d k)] 67)).cell? ⟨wr.heap.size,2,none⟩ = some (.int .i64 (d k)):=hA.cell (i:=2) rfl
   have g2:(wr.alloc (.cells #[.int .i64 (b k),.int .i64 (i k),.int .i64 (d k)] 67)).cell? ⟨w.heap.size,2,none⟩ = some (.int .i64 I):=(st.s.alloc _).cell (i:=2) rfl
   have ST:=Lib.hid (st.below (df_ne _ _ _ _) ((Below.refl _ _).alloc (Nat.le_refl _) (.cells (dcells (b k) (i k) (d k)) 67)))
   have HK:Hid (∀ c,okD da I (b k) (i k) (d k) = c → (c = true → allB (fun k => okD da I (b k) (i k) (d k)) (k + 1) = true) ∧ (c = false → allB (fun k => okD da I (b k) (i k) (d k)) n = false)):=fun c hc =>
    ⟨fun h => by show (allB _ k && okD da I (b k) (i k) (d k)) = true;rw [HALL.out,hc,h];rfl,fun h => allB_no hlt (by rw [hc,h])⟩
   clear hsg hA st HALL
   generalize b k = x at *
   generalize i k = y at *
   generalize d k = v at *
   have hnl:(n:Int) ≤ 9223372036854775807:=hn
   by_cases h1:0 ≤ x
   rotate_left
   ·have HF:Hid (allB (fun k => okD da I (b k) (i k) (d k)) n = false):=(HK.out false (okD_no fun h => h1 (h.1))).2 rfl
    have q1:decide (x < 0) = true:=by rw [decide_eq_true_eq];omega
    go_wp2_with fail
    go_ret
    exact ⟨by rw [HD.out,HF.out];rfl,ST.out.bel⟩
   have q1:decide (x < 0) = false:=by rw [decide_eq_false_iff_not];omega
   by_cases h2:x ≤ da
   rotate_left
   ·have HF:Hid (allB (fun k => okD da I (b k) (i k) (d k)) n = false):=(HK.out false (okD_no fun h => h2 (h.2.1))).2 rfl
    have q2:decide (da < x) = true:=by rw [decide_eq_true_eq];omega
    go_wp2_with fail
    go_ret
    exact ⟨by rw [HD.out,HF.out];rfl,ST.out.bel⟩
   have q2:decide (da < x) = false:=by rw [decide_eq_false_iff_not];omega
   by_cases h3:0 ≤ y
   rotate_left
   ·have HF:Hid (allB (fun k => okD da I (b k) (i k) (d k)) n = false):=(HK.out false (okD_no fun h => h3 (h.2.2.1))).2 rfl
    have q3:decide (y < 0) = true:=by rw [decide_eq_true_eq];omega
    go_wp2_with fail
    go_ret
    exact ⟨by rw [HD.out,HF.out];rfl,ST.out.bel⟩
   have q3:decide (y < 0) = false:=by rw [decide_eq_false_iff_not];omega
   by_cases h4:y ≤ I
   rotate_left
   ·have HF:Hid (allB (fun k => okD da I (b k) (i k) (d k)) n = false):=(HK.out false (okD_no fun h => h4 (h.2.2.2.1))).2 rfl
    have q4:decide (I < y) = true:=by rw [decide_eq_true_eq];omega
    go_wp2_with fail
    go_ret
    exact ⟨by rw [HD.out,HF.out];rfl,ST.out.bel⟩
   have q4:decide (I < y) = false:=by rw [decide_eq_false_iff_not];omega
   by_cases h5:0 ≤ v
   rotate_left
   ·have HF:Hid (allB (fun k => okD da I (b k) (i k) (d k)) n = false):=(HK.out false (okD_no fun h => h5 (h.2.2.2.2.1))).2 rfl
    have q5:decide (v < 0) = true:=by rw [decide_eq_true_eq];omega
    go_wp2_with fail
    go_ret
    exact ⟨by rw [HD.out,HF.out];rfl,ST.out.bel⟩
   have q5:decide (v < 0) = false:=by rw [decide_eq_false_iff_not];omega
   by_cases h6:v ≤ I - y
   rotate_left
   ·have HF:Hid (allB (fun k => okD da I (b k) (i k) (d k)) n = false):=(HK.out false (okD_no fun h => h6 (h.2.2.2.2.2))).2 rfl
    have q6:decide (I - y < v) = true:=by rw [decide_eq_true_eq];omega
    go_wp2_with fail
    go_ret
    exact ⟨by rw [HD.out,HF.out];rfl,ST.out.bel⟩
   have q6:decide (I - y < v) = false:=by rw [decide_eq_false_iff_not];omega
   have HY:Hid (allB (fun k => okD da I (b k) (i k) (d k)) (k + 1) = true):=(HK.out true ((okD_iff _ _ _ _ _).2 ⟨h1,h2,h3,h4,h5,h6⟩)).1 rfl
   go_wp2_with fail
   go_roundw
   case rel => first | exact ⟨k + 1,by omega,by go_num,HY,ST.out⟩ | exact ⟨k + 1,by omega,rfl,HY,ST.out⟩
   case measure => simp [intOf];omega
  ·obtain rfl:k = n:=by omega
   go_wp2_with fail
   go_ret
   exact ⟨by rw [HD.out,HALL.out];rfl,st.bel⟩
def dH (b i d:Nat → Int):Nat → Nat → Int
 | 0 => fun _ => 0
 | k + 1 => upd (upd (upd (dH b i d k) (4 * k) (b k)) (4 * k + 1) (i k)) (4 * k + 2) (d k)
def descOk (G S I J:Int) (n:Nat) (b i d:Nat → Int):Bool:=mayG G S I J && mayD G S I J n b i d
def descE (G S I J:Int) (n:Nat) (b i d:Nat → Int):Int:=if mayG G S I J then (if mayD G S I J n b i d then 0 else 2) else 50
def descZ (G S I J:Int) (n:Nat) (b i d:Nat → Int):Nat → Int:=if descOk G S I J n b i d then sealZ (hz (dH b i d n)) else fun _ => 0
theorem mayD_iff {G S I J:Int} {n:Nat} {b i d:Nat → Int} (hm:mayG G S I J = true) (h:mayD G S I J n b i d = true):(n:Int) = G ∧ n ≤ 4 ∧ ∀ k,k < n → (0 ≤ b k ∧ b k ≤ 512) ∧ (0 ≤ i k ∧ i k ≤ 64) ∧ (0 ≤ d k ∧ d k ≤ 64):=by
 unfold mayD at h
 rw [Bool.and_eq_true,decide_eq_true_eq,allB_iff] at h
 obtain ⟨h1,h2,h3,h4,h5,h6,h7,h8,h9,h10,h11⟩:=(mayG_iff G S I J).1 hm
 have:=nDa_bd G S I J
 refine ⟨h.1,by omega,fun k hk => ?_⟩
 have:=(okD_iff _ _ _ _ _).1 (h.2 k hk)
 omega
def b8 (a b c d e f g h:Bool):Nat:=a.toNat + 2 * b.toNat + 4 * c.toNat + 8 * d.toNat + 16 * e.toNat + 32 * f.toNat + 64 * g.toNat + 128 * h.toNat
def by8 (P:Nat → Bool) (k:Nat):Nat:=b8 (P (8 * k)) (P (8 * k + 1)) (P (8 * k + 2)) (P (8 * k + 3)) (P (8 * k + 4)) (P (8 * k + 5)) (P (8 * k + 6)) (P (8 * k + 7))
def bZ (P:Nat → Bool) (k:Nat):Int:=(by8 P k:Nat)
theorem b8_lt:∀ a b c d e f g h:Bool,b8 a b c d e f g h < 256:=by decide
theorem by8_lt (P:Nat → Bool) (k:Nat):by8 P k < 256:=b8_lt _ _ _ _ _ _ _ _
theorem bZ_byt (P:Nat → Bool):Byt (bZ P):=fun i => by have:=by8_lt P i;unfold bZ;omega
def setB (P:Nat → Bool) (i:Nat):Nat → Bool:=fun j => if j = i then true else P j
theorem an0:∀ a b c d e f g h:Bool,(b8 a b c d e f g h &&& 1) = 1 * a.toNat:=by decide
theorem an1:∀ a b c d e f g h:Bool,(b8 a b c d e f g h &&& 2) = 2 * b.toNat:=by decide
theorem an2:∀ a b c d e f g h:Bool,(b8 a b c d e f g h &&& 4) = 4 * c.toNat:=by decide
theorem an3:∀ a b c d e f g h:Bool,(b8 a b c d e f g h &&& 8) = 8 * d.toNat:=by decide
theorem an4:∀ a b c d e f g h:Bool,(b8 a b c d e f g h &&& 16) = 16 * e.toNat:=by decide
theorem an5:∀ a b c d e f g h:Bool,(b8 a b c d e f g h &&& 32) = 32 * f.toNat:=by decide
theorem an6:∀ a b c d e f g h:Bool,(b8 a b c d e f g h &&& 64) = 64 * g.toNat:=by decide
theorem an7:∀ a b c d e f g h:Bool,(b8 a b c d e f g h &&& 128) = 128 * h.toNat:=by decide
theorem by8_and (P:Nat → Bool) (k j:Nat) (hj:j < 8):by8 P k &&& 2 ^ j = 2 ^ j * (P (8 * k + j)).toNat:=by
 unfold by8
 have:j = 0 ∨ j = 1 ∨ j = 2 ∨ j = 3 ∨ j = 4 ∨ j = 5 ∨ j = 6 ∨ j = 7:=by omega
 rcases this with rfl | rfl | rfl | rfl | rfl | rfl | rfl | rfl
 ·exact an0 _ _ _ _ _ _ _ _
 ·exact an1 _ _ _ _ _ _ _ _
 ·exact an2 _ _ _ _ _ _ _ _
 ·exact an3 _ _ _ _ _ _ _ _
 ·exact an4 _ _ _ _ _ _ _ _
 ·exact an5 _ _ _ _ _ _ _ _
 ·exact an6 _ _ _ _ _ _ _ _
 ·exact an7 _ _ _ _ _ _ _ _
theorem bZ_none (k:Nat):bZ (fun _ => false) k = 0:=rfl
theorem bitIs_any (i:Nat) (hi:i < 2048) (w:World):Calls Tryz.prog 45 #[.int .i64 (i:Int)] w fun e w' => e = .returned (.bool true) ∧ w = w':=by
 have h1:(i:Int) < 2048:=by omega
 have h2:decide ((i:Int) < 2048) = true:=decide_eq_true h1
 have h0:(0:Int) ≤ (i:Int):=by omega
 have h3:decide ((0:Int) ≤ (i:Int)) = true:=decide_eq_true h0
 go_enter Tryz.func45,Tryz.ntmps45
 go_wp2_with fail
 go_ret
 exact ⟨rfl,rfl⟩
theorem u8_pow (j:Nat) (hj:j < 8):(2:Int) ^ j % 256 = ((2 ^ j:Nat):Int):=by
 have:j = 0 ∨ j = 1 ∨ j = 2 ∨ j = 3 ∨ j = 4 ∨ j = 5 ∨ j = 6 ∨ j = 7:=by omega
 rcases this with rfl | rfl | rfl | rfl | rfl | rfl | rfl | rfl <;> rfl
theorem bitMask_any (i:Nat) (hi:i < 2048) (w:World):Calls Tryz.prog 46 #[.int .i64 (i:Int)] w fun e w' => e = .returned (.int .u8 ((2 ^ (i % 8):Nat):Int)) ∧ w = w':=by
 have h0:(i:Int).tmod 8 = (i:Int) % 8:=Int.tmod_eq_emod_of_nonneg (by omega)
 have hq:=u8_pow (i % 8) (Nat.mod_lt _ (by decide))
 have HQ:=Lib.hid hq
 clear hq
 go_enter Tryz.func46,Tryz.ntmps46
 go_wp2_with fail
 go_ret
 exact ⟨by rw [← HQ.out];rfl,rfl⟩
theorem pow_lt8 (i:Nat):2 ^ (i % 8) < 256:=by
 have:i % 8 = 0 ∨ i % 8 = 1 ∨ i % 8 = 2 ∨ i % 8 = 3 ∨ i % 8 = 4 ∨ i % 8 = 5 ∨ i % 8 = 6 ∨ i % 8 = 7:=by omega
 rcases this with h | h | h | h | h | h | h | h <;> (rw [h];decide)
def mapB (used size:Nat) (i:Nat):Bool:=decide (i < used) || (decide (size ≤ i) && decide (i < 2048))
def preB (n:Nat) (i:Nat):Bool:=decide (i < n)
def hi8 (P:Nat → Bool) (i:Nat):Nat → Nat
 | 0 => 0
 | t + 1 => 2 * hi8 P i t + (P (8 * i + (7 - t))).toNat
theorem hi8_lt (P:Nat → Bool) (i:Nat):∀ t,hi8 P i t < 2 ^ t
 | 0 => by show 0 < 2 ^ 0;decide
 | t + 1 => by
  have h:=hi8_lt P i t
  have hb:(P (8 * i + (7 - t))).toNat ≤ 1:=Bool.toNat_le _
  show 2 * hi8 P i t + (P (8 * i + (7 - t))).toNat < 2 ^ (t + 1)
  rw [Nat.pow_succ];omega
theorem hi8_256 (P:Nat → Bool) (i:Nat) {t:Nat} (ht:t ≤ 8):hi8 P i t < 256:=by
 have h1:=hi8_lt P i t
 have h2:2 ^ t ≤ 2 ^ 8:=Nat.pow_le_pow_right (by decide) ht
 omega
theorem hi8_8 (P:Nat → Bool) (i:Nat):hi8 P i 8 = by8 P i:=by
 unfold by8 b8
 show 2 * (2 * (2 * (2 * (2 * (2 * (2 * (2 * 0 + (P (8 * i + 7)).toNat) + (P (8 * i + 6)).toNat) + (P (8 * i + 5)).toNat) + (P (8 * i + 4)).toNat) + (P (8 * i + 3)).toNat) + (P (8 * i + 2)).toNat) + (P (8 * i + 1)).toNat) + (P (8 * i + 0)).toNat = _
 rw [Nat.add_zero (8 * i)]
 omega
def boF (P:Nat → Bool) (i:Nat):List Value:=[.bool (P i)]
theorem boF_len (P:Nat → Bool) (i:Nat):(boF P i).length = 1:=rfl
def uB (P:Nat → Bool) (k j:Nat):Int:=if j < k then bZ P j else 0
structure R4S (w:World) (P:Nat → Bool) (b off k:Nat) (W:World):Prop where
 r:Blk W w.heap.size 32 256 (fun _ => 0)
 bk:Blk W (w.heap.size + 1) 32 256 (uB P k)
 l:RRow W (some ⟨b,off,none⟩) 1 2048 (boF P)
 bel:Below w.heap.size w W
theorem boRow {W:World} {b off:Nat} {P:Nat → Bool} (h:RRow W (some ⟨b,off,none⟩) 1 2048 (boF P)) {d:Nat} (hd:d < 2048):W.cell? ⟨b,off + d,none⟩ = some (.bool (P d)):=by
 rcases h with h | ⟨b',off',e,h⟩
 ·omega
 ·injection e with e;injection e with e1 e2;subst e1 e2
  have:=h d hd 0 _ rfl
  rwa [Nat.mul_one,Nat.add_zero] at this
set_option maxRecDepth 100000 in
set_option maxHeartbeats 8000000 in
theorem rBits4_any (P:Nat → Bool) (la:Option Addr) (cap:Nat) (w:World) (hl:RRow w la 1 2048 (boF P)) (hla:∀ b off,la = some ⟨b,off,none⟩ → b < w.heap.size) :
  Calls Tryz.prog 59 #[.slice la 2048 cap] w fun e w' => e = .returned (bval (bZ P)) ∧ Below w.heap.size w w':=by
 obtain ⟨b,off,rfl⟩:∃ b off,la = some ⟨b,off,none⟩:=by
  rcases hl with h | ⟨b,off,e,_⟩
  ·omega
  ·exact ⟨b,off,e⟩
 have hbw:=hla b off rfl
 have hal:=zero_block
 have st:Hid (R4S w P b off 0 ((w.alloc (.cells (Ks .u8 256 (fun _ => 0)).toArray 32)).alloc (.cells (Ks .u8 256 (fun _ => 0)).toArray 32))):=by
  refine ⟨(Blk.new w _ _ _).alloc _,?_,?_,((Below.refl _ _).alloc (Nat.le_refl _) _).alloc (by simp) _⟩
  ·have:=Blk.new (w.alloc (.cells (Ks .u8 256 (fun _ => 0)).toArray 32)) 32 256 (fun _ => 0)
   simp only [World.size_alloc] at this
   exact this.congr fun i _ => rfl
  ·exact hl.below (by intro e;cases e) (((Below.refl w.heap.size w).alloc (Nat.le_refl _) _).alloc (by simp) _)
 clear hl hla
 go_enter Tryz.func59,Tryz.ntmps59
 go_wp2_with fail
 go_loopw [4,5,6] (fun u _ _ wr => ∃ k:Nat,u = .int .i64 (k:Int) ∧ k ≤ 256 ∧ R4S w P b off k wr) (fun u _ _ _ => 256 - (intOf u).toNat)
 case atStart => exact ⟨0,rfl,Nat.zero_le _,st.out⟩
 case round =>
  clear st
  obtain ⟨k,rfl,hk,st⟩:=hrel
  have ST:=Lib.hid st
  clear st
  by_cases hlt:k < 256
  ·have hlt':(k:Int) < 256:=by omega
   have k0:(0:Int) ≤ (k:Int):=by omega
   go_wp2_with fail
   go_loopw [5,6] (fun x u wq => ∃ (t:Nat),x = .int .i64 (hi8 P k t:Int) ∧ u = .int .i64 (7 - (t:Int)) ∧ t ≤ 8 ∧ wq = wr) (fun _ u _ => (intOf u + 1).toNat)
   case atStart => exact ⟨0,rfl,rfl,Nat.zero_le _,rfl⟩
   case round =>
    obtain ⟨t,rfl,rfl,ht,rfl⟩:=hrel
    by_cases hlt2:t < 8
    ·obtain ⟨q,hq⟩:∃ q:Nat,7 - (t:Int) = (q:Int):=⟨7 - t,by omega⟩
     have hq':q = 7 - t:=by omega
     have q0:(0:Int) ≤ (q:Int):=by omega
     obtain ⟨D,hD⟩:∃ D:Nat,8 * (k:Int) + (q:Int) = (D:Int):=⟨8 * k + q,by omega⟩
     have hDk:D = 8 * k + (7 - t):=by omega
     have hD2:D < 2048:=by omega
     have hD3:(D:Int) < 2048:=by omega
     have D0:(0:Int) ≤ (D:Int):=by omega
     have cD:=boRow ST.out.l hD2
     have HX:=hi8_256 P k (t:=t) (by omega)
     have HN:Hid (hi8 P k (t + 1) = 2 * hi8 P k t + (P D).toNat):=by show hi8 P k (t + 1) = _;rw [hDk];rfl
     rw [hq]
     obtain ⟨X,hX⟩:∃ X,X = hi8 P k t:=⟨_,rfl⟩
     rw [← hX] at HX HN
     rw [← hX]
     have hq1:Hid (7 - ((t + 1:Nat):Int) = (q:Int) - 1):=by show _ = _;omega
     have hqt:Hid ((q:Int) = 7 - (t:Int)):=hq.symm
     have hD7:=Lib.hid hDk
     clear hX hq hq' hDk
     cases hP:P D with
     | true =>
      rw [hP] at cD
      have hn:Hid (2 * (X:Int) + 1 = (hi8 P k (t + 1):Int)):=by show _ = _;rw [HN.out,hP,Bool.toNat_true];omega
      clear hP HN
      go_wp2_with fail
      go_roundw
      case rel => exact ⟨t + 1,by rw [← hn.out],by rw [hq1.out],by omega,trivial⟩
      case measure => simp [intOf]
     | false =>
      rw [hP] at cD
      have hn:Hid (2 * (X:Int) = (hi8 P k (t + 1):Int)):=by show _ = _;rw [HN.out,hP,Bool.toNat_false];omega
      clear hP HN
      go_wp2_with fail
      go_roundw
      case rel => exact ⟨t + 1,by rw [← hn.out],by rw [hq1.out],by omega,trivial⟩
      case measure => simp [intOf]
    ·obtain rfl:t = 8:=by omega
     rw [hi8_8]
     have hB:=by8_lt P k
     obtain ⟨X,hX⟩:∃ X,X = by8 P k:=⟨_,rfl⟩
     rw [← hX] at hB
     rw [← hX]
     have HX:=Lib.hid hX
     clear hX
     have hb:=ST.out.bk
     have c9:wr.cell? ⟨w.heap.size + 1,k,none⟩ = some (.int .u8 0):=by
      have:=hb.seg k hlt
      rw [Nat.zero_add] at this
      rw [this]
      unfold uB
      rw [if_neg (by omega)]
     have f9:wr.frozen? ⟨w.heap.size + 1,k,none⟩ = false:=soft_of_heap hb k
     have ho:=Only.setCell wr ⟨w.heap.size + 1,k,none⟩ (.int .u8 (X:Int))
     have hl2:Below w.heap.size w wr:=ST.out.bel
     have ST2:Hid (R4S w P b off (k + 1) (wr.setCell ⟨w.heap.size + 1,k,none⟩ (.int .u8 (X:Int)))):=by
      refine ⟨ST.out.r.only ho (by show _ ≠ w.heap.size + 1;omega),(hb.setCell k (X:Int) hlt).congr fun j hj => ?_,?_,hl2.trans (ho.below (by show _ ≤ w.heap.size + 1;omega))⟩
      ·unfold uB over
       show (if k ≤ j ∧ j < k + 1 then (X:Int) else (if j < k then bZ P j else 0)) = if j < k + 1 then bZ P j else 0
       by_cases e:j = k
       ·rw [if_pos (by omega),if_pos (by omega),HX.out,e];rfl
       ·rw [if_neg (by omega)]
        by_cases e2:j < k
        ·rw [if_pos e2,if_pos (by omega)]
        ·rw [if_neg e2,if_neg (by omega)]
      ·rcases ST.out.l with h | ⟨b',off',e,h⟩
       ·omega
       ·injection e with e;injection e with e1 e2;subst e1 e2
        exact .inr ⟨b,off,rfl,fun i hi j v hj => (World.cell?_of_block (ho.block b (by show b ≠ w.heap.size + 1;omega))).trans (h i hi j v hj)⟩
     clear ho hl2 hb ST
     go_wp2_with fail
     go_roundw
     case rel => first | exact ⟨k + 1,by first | rfl | go_num,by omega,ST2.out⟩ | ((repeat apply Exists.intro);exact ⟨⟨k + 1,by first | rfl | go_num,by omega,ST2.out⟩,rfl⟩)
     case measure => simp [intOf];omega
  ·obtain rfl:k = 256:=by omega
   have hb:Blk wr (w.heap.size + 1) 32 256 (bZ P):=ST.out.bk.congr fun j hj => by unfold uB;rw [if_pos hj]
   have hr:=ST.out.r
   go_wp2_with (first | (refine wp_loadBlkG rfl (.tmp 3) rfl (w.heap.size + 1) _ rfl hb ?_) | (refine wp_storeBlk rfl (.tmp 2) (.tmp 30) rfl w.heap.size (bZ P) _ rfl rfl hr ?_))
   intro w7 hR7 ho7
   go_wp2_with fail
   exact bodyPost_ret (results_blk rfl _ _ w.heap.size _ rfl hR7) rfl ⟨rfl,ST.out.bel.trans (ho7.below (Nat.le_refl _))⟩
end Go.Proofs.YtphamecphmbipaaGreatDoor
