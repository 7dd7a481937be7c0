/- Texts of this claim, merged. -/
import Derived.Test.YtphamecphmbipaaGreatDoorK11
set_option maxRecDepth 100000
set_option maxHeartbeats 16000000

namespace Go.Proofs.YtphamecphmbipaaGreatDoor
open Go.RowKit
set_option linter.unusedVariables false
def readA (z:Nat → Int):Bool:=(g32 z 0 == 827216465) && ((hd z 2 == 1) && ((hd z 3 == 256) && (sumB z && allZ (fun i => z (20 + i)) 232)))
def readE (z:Nat → Int):Int:=if readA z then (if mayG (hd z 4) (hd z 5) (hd z 6) (hd z 7) then (if g32 z 16 ≤ nIn (hd z 4) (hd z 5) (hd z 6) (hd z 7) then 0 else 60) else 50) else 60
def readV (z:Nat → Int):Value:=if readE z = 0 then sval (hd z 4) (hd z 5) (hd z 6) (hd z 7) (g32 z 16) else sval 0 0 0 0 0
theorem readV_no {z:Nat → Int} (h:readE z = 60 ∨ readE z = 50):readV z = sval 0 0 0 0 0:=by unfold readV;rw [if_neg (by omega)]
structure RS (w:World) (g:Nat) (z:Nat → Int) (W:World):Prop where
 r:At W (w.heap.size + 1) 47 (scells 0 0 0 0 0)
 p:Blk W g 108 256 z
 t:Tab W
 bel:Below w.heap.size w W
theorem RS.below {w:World} {g:Nat} {z:Nat → Int} {W W':World} (h:RS w g z W) (hb:Below W.heap.size W W'):RS w g z W' :=
 ⟨h.r.below hb h.r.lt,h.p.below hb h.p.lt,h.t.below hb (Nat.le_refl _),h.bel.trans (hb.mono h.bel.size)⟩
theorem results_sup2 {fn:Func} {p u:Tmp} (h:fn.results = #[.cell p 47,.tmp u]) (tmps:Array Value) (w:World) (g:Nat) (G S I J O:Int)
  (hp:tmps.getD p undef = .pointer (some ⟨g,0,none⟩)) (hg:At w g 47 (scells G S I J O)):(results fn tmps).run Tryz.prog w = .ok (.tuple #[sval G S I J O,tmps.getD u undef]) w :=
 results_row_tmp h tmps w g _ _ _ _ hp hg Tryz.underlying47 rfl (by kernel_rfl)
theorem build_page (z:Nat → Int) (w:World):(Instr.build 108 #[(0,bval z)]).run Tryz.prog w = .ok (.agg (Ks .u8 256 z).toArray) w:=by kernel_rfl
theorem wp_build1 {P:Program} {w:World} {ops:Array Oper} {rest:List Oper} {o:Oper} {a:Act} {Q:Exit → Act → World → Prop} (hw:Region.wanted o (yielded ops a.tmps) = true) (T:TypeId) (i:Nat) (x:Operand) (ho:o.op = .build T #[(i,x)])
  (u v:Value) (hx:a.eval x = u) (hb:(Instr.build T #[(i,u)]).run P w = .ok v w) (h:wpList P ops Q rest (a.put o.dst v) w):wpList P ops Q (o :: rest) a w :=
 BigFrame.wpList_want hw fun _ hK => by
  have hr:(execOp a.eval o).run P w = .ok (.value v) w:=by
   unfold execOp
   simp only [ho,List.map_toArray,List.map_cons,List.map_nil,hx,Sem.run_bind,hb,Result.andThen_ok,Sem.run_pure]
  unfold Oper.wp
  rw [hr]
  exact hK _ _ h
theorem all_s (G S I J O:Int):(scells G S I J O).all (·.oneCell') = true:=by kernel_rfl
theorem info_super:(Tryz.prog.info? 47).map (·.size) = some 5:=by kernel_rfl
theorem build_super (G S I J O:Int) (w:World):(Instr.build 47 #[(0,gval G S I J),(1,.int .u32 O)]).run Tryz.prog w = .ok (sval G S I J O) w:=by kernel_rfl
theorem At.blk {w:World} {g:Nat} {T:TypeId} {z:Nat → Int} (h:At w g T (Ks .u8 256 z).toArray):Blk w g T 256 z:=h
theorem superRead_any (z:Nat → Int) (hzb:Byt z) (w:World) (hT:Tab w) :
  Calls Tryz.prog 125 #[bval z] w fun e w' => e = .returned (.tuple #[readV z,.int .i64 (readE z)]) ∧ Below w.heap.size w w':=by
 have hal:=zero_super
 have halp:=zero_page
 have hbd:=fun W => build_page z W
 have hB:Blk ((w.alloc (.cells (Ks .u8 256 z).toArray 32)).alloc (.cells (scells 0 0 0 0 0) 47)) w.heap.size 32 256 z:=(Blk.new w _ _ _).alloc _
 have hR:At ((w.alloc (.cells (Ks .u8 256 z).toArray 32)).alloc (.cells (scells 0 0 0 0 0) 47)) (w.heap.size + 1) 47 (scells 0 0 0 0 0):=by
  have:=At.new (w.alloc (.cells (Ks .u8 256 z).toArray 32)) 47 (scells 0 0 0 0 0)
  simp only [World.size_alloc] at this
  exact this
 have hP:At (((w.alloc (.cells (Ks .u8 256 z).toArray 32)).alloc (.cells (scells 0 0 0 0 0) 47)).alloc (.cells (Ks .u8 256 (fun _ => 0)).toArray 108)) (w.heap.size + 1 + 1) 108 (Ks .u8 256 (fun _ => 0)).toArray:=by
  have:=At.new ((w.alloc (.cells (Ks .u8 256 z).toArray 32)).alloc (.cells (scells 0 0 0 0 0) 47)) 108 (Ks .u8 256 (fun _ => 0)).toArray
  simp only [World.size_alloc] at this
  exact this
 have hL:Hid (Below w.heap.size w (((w.alloc (.cells (Ks .u8 256 z).toArray 32)).alloc (.cells (scells 0 0 0 0 0) 47)).alloc (.cells (Ks .u8 256 (fun _ => 0)).toArray 108))):=(((Below.refl _ _).alloc (Nat.le_refl _) _).alloc (by simp) _).alloc (by simp;omega) _
 have hTW:=Lib.hid (((hT.alloc (.cells (Ks .u8 256 z).toArray 32)).alloc (.cells (scells 0 0 0 0 0) 47)).alloc (.cells (Ks .u8 256 (fun _ => 0)).toArray 108))
 have hTl:=hT.lt
 have hR':=Lib.hid (hR.alloc (.cells (Ks .u8 256 (fun _ => 0)).toArray 108))
 clear hT hR
 go_enter Tryz.func125,Tryz.ntmps125
 go_wp2_with (first | (refine wp_loadBlkG rfl (.tmp 1) rfl w.heap.size z rfl hB ?_) | (refine wp_build1 rfl 108 0 (.tmp 6) rfl (bval z) _ rfl (hbd _) ?_) | (refine wp_storeAt rfl 108 (.tmp 4) (.tmp 7) rfl (w.heap.size + 1 + 1) (Ks .u8 256 z).toArray (Ks .u8 256 (fun _ => 0)).toArray rfl rfl hP (info_page' z) (by rw [Ks_size,Ks_size]) (Ks_one _ _ _) ?_))
 intro w1 hP1 ho1
 have st0:Hid (RS w (w.heap.size + 1 + 1) z w1):=⟨hR'.out.only ho1 (by omega),hP1.blk,hTW.out.only ho1 (by omega),hL.out.trans (ho1.below (by omega))⟩
 clear hB hP hP1 ho1 hTW hL hR' hbd
 obtain ⟨g,hg⟩:∃ g,w.heap.size + 1 + 1 = g:=⟨_,rfl⟩
 rw [hg] at st0 ⊢
 have hgl:w.heap.size + 2 ≤ g:=by omega
 clear hg
 go_wp2_with fail
 refine (pageGet4_any g z hzb 0 0 rfl (by omega) _ st0.out.p).mono ?_
 rintro e wx ⟨rfl,rfl⟩
 obtain ⟨c1,hc1⟩:∃ c,(g32 z 0 == 827216465) = c:=⟨_,rfl⟩
 have hn1:(g32 z 0 != 827216465) = !c1:=by rw [← hc1];rfl
 cases c1 with
 | false =>
  have HE:Hid (readE z = 60):=by show _ = _;unfold readE readA;rw [hc1];rfl
  have hr:=st0.out.r
  go_wp2_with (first | (refine wp_storeAt rfl 47 (.tmp 2) (.tmp 18) rfl (w.heap.size + 1) (scells 0 0 0 0 0) (scells 0 0 0 0 0) rfl rfl hr info_super rfl (all_s _ _ _ _ _) ?_))
  intro w9 hR9 ho9
  go_wp2_with fail
  exact bodyPost_ret (results_sup2 rfl _ _ (w.heap.size + 1) _ _ _ _ _ rfl hR9) rfl ⟨by rw [readV_no (by rw [HE.out];decide),HE.out];rfl,st0.out.bel.trans (ho9.below (by omega))⟩
 | true =>
 have HC1:=Lib.hid hc1
 clear hc1
 go_wp2_with fail
 clear hn1
 refine (pageGet_any g z hzb 2 4 rfl (by omega) _ st0.out.p).mono ?_
 rintro e wx ⟨rfl,rfl⟩
 obtain ⟨c2,hc2⟩:∃ c,(hd z 2 == 1) = c:=⟨_,rfl⟩
 have hn2:(hd z 2 != 1) = !c2:=by rw [← hc2];rfl
 cases c2 with
 | false =>
  have HE:Hid (readE z = 60):=by show _ = _;unfold readE readA;rw [HC1.out,hc2];rfl
  have hr:=st0.out.r
  go_wp2_with (first | (refine wp_storeAt rfl 47 (.tmp 2) (.tmp 18) rfl (w.heap.size + 1) (scells 0 0 0 0 0) (scells 0 0 0 0 0) rfl rfl hr info_super rfl (all_s _ _ _ _ _) ?_))
  intro w9 hR9 ho9
  go_wp2_with fail
  exact bodyPost_ret (results_sup2 rfl _ _ (w.heap.size + 1) _ _ _ _ _ rfl hR9) rfl ⟨by rw [readV_no (by rw [HE.out];decide),HE.out];rfl,st0.out.bel.trans (ho9.below (by omega))⟩
 | true =>
 have HC2:=Lib.hid hc2
 clear hc2
 go_wp2_with fail
 clear hn2
 refine (pageGet_any g z hzb 3 6 rfl (by omega) _ st0.out.p).mono ?_
 rintro e wx ⟨rfl,rfl⟩
 obtain ⟨c3,hc3⟩:∃ c,(hd z 3 == 256) = c:=⟨_,rfl⟩
 have hn3:(hd z 3 != 256) = !c3:=by rw [← hc3];rfl
 cases c3 with
 | false =>
  have HE:Hid (readE z = 60):=by show _ = _;unfold readE readA;rw [HC1.out,HC2.out,hc3];rfl
  have hr:=st0.out.r
  go_wp2_with (first | (refine wp_storeAt rfl 47 (.tmp 2) (.tmp 18) rfl (w.heap.size + 1) (scells 0 0 0 0 0) (scells 0 0 0 0 0) rfl rfl hr info_super rfl (all_s _ _ _ _ _) ?_))
  intro w9 hR9 ho9
  go_wp2_with fail
  exact bodyPost_ret (results_sup2 rfl _ _ (w.heap.size + 1) _ _ _ _ _ rfl hR9) rfl ⟨by rw [readV_no (by rw [HE.out];decide),HE.out];rfl,st0.out.bel.trans (ho9.below (by omega))⟩
 | true =>
 have HC3:=Lib.hid hc3
 clear hc3
 go_wp2_with fail
 clear hn3
 refine (pageSealed_any g z hzb _ st0.out.p st0.out.t).mono ?_
 rintro e w2 ⟨rfl,hb2⟩
 have st2:=Lib.hid (st0.out.below hb2)
 clear st0 hb2
 cases hc4:sumB z with
 | false =>
  have HE:Hid (readE z = 60):=by show _ = _;unfold readE readA;rw [HC1.out,HC2.out,HC3.out,hc4];rfl
  have hr:=st2.out.r
  go_wp2_with (first | (refine wp_storeAt rfl 47 (.tmp 2) (.tmp 25) rfl (w.heap.size + 1) (scells 0 0 0 0 0) (scells 0 0 0 0 0) rfl rfl hr info_super rfl (all_s _ _ _ _ _) ?_))
  intro w9 hR9 ho9
  go_wp2_with fail
  exact bodyPost_ret (results_sup2 rfl _ _ (w.heap.size + 1) _ _ _ _ _ rfl hR9) rfl ⟨by rw [readV_no (by rw [HE.out];decide),HE.out];rfl,st2.out.bel.trans (ho9.below (by omega))⟩
 | true =>
 have HC4:=Lib.hid hc4
 clear hc4
 go_wp2_with fail
 refine (pageNoughts_any g z 20 252 20 252 rfl rfl (by omega) (by omega) (by omega) _ st2.out.p).mono ?_
 rintro e wx ⟨rfl,rfl⟩
 rw [show 252 - 20 = 232 from rfl]
 cases hc5:allZ (fun i => z (20 + i)) 232 with
 | false =>
  have HE:Hid (readE z = 60):=by show _ = _;unfold readE readA;rw [HC1.out,HC2.out,HC3.out,HC4.out,hc5];rfl
  have hr:=st2.out.r
  go_wp2_with (first | (refine wp_storeAt rfl 47 (.tmp 2) (.tmp 25) rfl (w.heap.size + 1) (scells 0 0 0 0 0) (scells 0 0 0 0 0) rfl rfl hr info_super rfl (all_s _ _ _ _ _) ?_))
  intro w9 hR9 ho9
  go_wp2_with fail
  exact bodyPost_ret (results_sup2 rfl _ _ (w.heap.size + 1) _ _ _ _ _ rfl hR9) rfl ⟨by rw [readV_no (by rw [HE.out];decide),HE.out];rfl,st2.out.bel.trans (ho9.below (by omega))⟩
 | true =>
 have HRA:Hid (readA z = true):=by show _ = _;unfold readA;rw [HC1.out,HC2.out,HC3.out,HC4.out,hc5];rfl
 clear hc5 HC1 HC2 HC3 HC4
 go_wp2_with fail
 refine (getGeo_any g z hzb _ st2.out.p).mono ?_
 rintro e w3 ⟨rfl,hb3⟩
 have st3:=Lib.hid (st2.out.below hb3)
 clear st2 hb3
 go_wp2_with fail
 refine (pageGet4_any g z hzb 16 16 rfl (by omega) _ st3.out.p).mono ?_
 rintro e wx ⟨rfl,rfl⟩
 have hbs:=fun W => build_super (hd z 4) (hd z 5) (hd z 6) (hd z 7) (g32 z 16) W
 have ho:=g32_bd hzb 16
 have HDEF:Hid (readE z = if mayG (hd z 4) (hd z 5) (hd z 6) (hd z 7) then (if g32 z 16 ≤ nIn (hd z 4) (hd z 5) (hd z 6) (hd z 7) then 0 else 60) else 50):=by show _ = _;unfold readE;rw [HRA.out];rfl
 have HDV:Hid (readE z = 0 → readV z = sval (hd z 4) (hd z 5) (hd z 6) (hd z 7) (g32 z 16)):=fun h => by unfold readV;rw [if_pos h]
 generalize hd z 4 = G at *
 generalize hd z 5 = S at *
 generalize hd z 6 = I at *
 generalize hd z 7 = J at *
 generalize g32 z 16 = O at *
 have hS4:=At.new w3 47 (scells G S I J O)
 have st4:=Lib.hid (st3.out.below ((Below.refl _ _).alloc (Nat.le_refl _) (.cells (scells G S I J O) 47)))
 have hgeo:=hS4.geo
 have hgl3:w.heap.size + 2 ≤ w3.heap.size:=by have:=st3.out.r.lt;omega
 clear st3
 go_wp2_with (first | (refine wp_loadRange rfl 23 _ rfl w3.heap.size 0 (gcells G S I J).toList _ rfl hgeo Tryz.underlying23 rfl (by kernel_rfl) ?_))
 clear hgeo hbs
 refine (geoMay_any G S I J _).mono ?_
 rintro e w5 ⟨rfl,hb5⟩
 have st5:=Lib.hid (st4.out.below hb5)
 have hS5:=hS4.below hb5 hS4.lt
 clear st4 hS4 hb5
 cases hm:mayG G S I J with
 | false =>
  have HE:Hid (readE z = 50):=by show _ = _;rw [HDEF.out,hm];rfl
  have hr:=st5.out.r
  go_wp2_with (first | (refine wp_storeAt rfl 47 (.tmp 2) (.tmp 34) rfl (w.heap.size + 1) (scells 0 0 0 0 0) (scells 0 0 0 0 0) rfl rfl hr info_super rfl (all_s _ _ _ _ _) ?_))
  intro w9 hR9 ho9
  go_wp2_with fail
  exact bodyPost_ret (results_sup2 rfl _ _ (w.heap.size + 1) _ _ _ _ _ rfl hR9) rfl ⟨by rw [readV_no (by rw [HE.out];decide),HE.out];rfl,st5.out.bel.trans (ho9.below (by omega))⟩
 | true =>
 have HM:=Lib.hid hm
 clear hm
 go_wp2_with (first | (refine wp_loadAtG rfl 47 _ rfl _ _ _ rfl hS5 Tryz.underlying47 rfl (by kernel_rfl) ?_))
 refine (orphaned_any G S I J O ho _).mono ?_
 rintro e w6 ⟨rfl,hb6⟩
 have st6:=Lib.hid (st5.out.below hb6)
 have hS6:=hS5.below hb6 hS5.lt
 clear st5 hS5 hb6
 cases hor:decide (O ≤ nIn G S I J) with
 | false =>
  have HE:Hid (readE z = 60):=by show _ = _;rw [HDEF.out,HM.out,if_pos rfl,if_neg (by simpa using hor)]
  have hr:=st6.out.r
  go_wp2_with (first | (refine wp_storeAt rfl 47 (.tmp 2) (.tmp 38) rfl (w.heap.size + 1) (scells 0 0 0 0 0) (scells 0 0 0 0 0) rfl rfl hr info_super rfl (all_s _ _ _ _ _) ?_))
  intro w9 hR9 ho9
  go_wp2_with fail
  exact bodyPost_ret (results_sup2 rfl _ _ (w.heap.size + 1) _ _ _ _ _ rfl hR9) rfl ⟨by rw [readV_no (by rw [HE.out];decide),HE.out];rfl,st6.out.bel.trans (ho9.below (by omega))⟩
 | true =>
 have HE:Hid (readE z = 0):=by show _ = _;rw [HDEF.out,HM.out,if_pos rfl,if_pos (by simpa using hor)]
 clear hor
 have hr:=st6.out.r
 go_wp2_with (first | (refine wp_loadAtG rfl 47 (.tmp 5) rfl _ _ _ rfl hS6 Tryz.underlying47 rfl (by kernel_rfl) ?_) | (refine wp_storeAt rfl 47 (.tmp 2) (.tmp 39) rfl (w.heap.size + 1) (scells G S I J O) (scells 0 0 0 0 0) rfl rfl hr info_super rfl (all_s _ _ _ _ _) ?_))
 intro w9 hR9 ho9
 go_wp2_with fail
 exact bodyPost_ret (results_sup2 rfl _ _ (w.heap.size + 1) _ _ _ _ _ rfl hR9) rfl ⟨by rw [HDV.out HE.out,HE.out];rfl,st6.out.bel.trans (ho9.below (by omega))⟩
abbrev rB (z:Nat → Int) (k:Nat):Int:=hd z (4 * k)
abbrev rI (z:Nat → Int) (k:Nat):Int:=hd z (4 * k + 1)
abbrev rD (z:Nat → Int) (k:Nat):Int:=hd z (4 * k + 2)
def rdIn (G S I J:Int) (z:Nat → Int):Bool :=
 sumB z && (allZ (fun i => z (8 * G.toNat + i)) (252 - 8 * G.toNat) && (allB (fun k => hd z (4 * k + 3) == 0) G.toNat && mayD G S I J G.toNat (rB z) (rI z) (rD z)))
def rdOk (G S I J:Int) (z:Nat → Int):Bool:=mayG G S I J && rdIn G S I J z
def RdPost (w:World) (G S I J:Int) (z:Nat → Int) (v:Value) (e:Int) (W:World):Prop :=
 (rdOk G S I J z = true ∧ e = 0 ∧ RMine W w.heap.size 67 3 v G.toNat (df (rB z) (rI z) (rD z))) ∨ (rdOk G S I J z = false ∧ e = (if mayG G S I J then 60 else 50) ∧ v = .slice none 0 0)
theorem zero_half (z:Nat → Int) (hzb:Byt z) (k:Nat):allZ (fun i => z (8 * k + 6 + i)) 2 = (hd z (4 * k + 3) == 0):=by
 have h:=allZ_hd hzb (4 * k + 3) 1
 rw [show 2 * (4 * k + 3) = 8 * k + 6 by omega] at h
 rw [show 2 * 1 = 2 from rfl] at h
 rw [h,Bool.eq_iff_iff]
 simp [allZ]
theorem info_desc3:(Tryz.prog.info? 67).map (fun i => (i.zero,i.size,i.bytes)) = some (some (dval 0 0 0),3,24):=by kernel_rfl
theorem all_d (B I D:Int):(dcells B I D).all (·.oneCell') = true:=by kernel_rfl
def mixR (z:Nat → Int) (k j:Nat):List Value:=if j < k then df (rB z) (rI z) (rD z) j else [.int .i64 0,.int .i64 0,.int .i64 0]
theorem mixR_len (z:Nat → Int) (k j:Nat):(mixR z k j).length = 3:=by unfold mixR;split <;> rfl
structure RD (w:World) (G S I J:Int) (g:Nat) (z:Nat → Int) (W:World):Prop where
 s:At W w.heap.size 23 (gcells G S I J)
 p:Blk W g 108 256 z
 bel:Below w.heap.size w W
theorem RD.below {w:World} {G S I J:Int} {g:Nat} {z:Nat → Int} {W W':World} (h:RD w G S I J g z W) (hb:Below W.heap.size W W'):RD w G S I J g z W' :=
 ⟨h.s.below hb h.s.lt,h.p.below hb h.p.lt,h.bel.trans (hb.mono h.bel.size)⟩
theorem RD.only {w:World} {G S I J:Int} {g q:Nat} {z:Nat → Int} {W W':World} (h:RD w G S I J g z W) (hb:Only q W W') (h1:w.heap.size < q) (h2:g ≠ q):RD w G S I J g z W' :=
 ⟨h.s.only hb (by omega),h.p.only hb h2,h.bel.trans (hb.below (by omega))⟩
theorem superReadDescs_any (G S I J:Int) (z:Nat → Int) (hzb:Byt z) (w:World) (hT:Tab w) :
  Calls Tryz.prog 16 #[gval G S I J,bval z] w fun e w' => ∃ v E,e = .returned (.tuple #[v,.int .i64 E]) ∧ RdPost w G S I J z v E w' ∧ Below w.heap.size w w':=by
 have halp:=zero_page
 have hbd:=fun W => build_page z W
 have HT:=Lib.hid hT
 obtain ⟨W,hW⟩:∃ W,W = (w.alloc (.cells (gcells G S I J) 23)).alloc (.cells (Ks .u8 256 z).toArray 32):=⟨_,rfl⟩
 have hS:At W w.heap.size 23 (gcells G S I J):=by rw [hW];exact (At.new w _ _).alloc _
 have hB:Blk W (w.heap.size + 1) 32 256 z:=by
  rw [hW]
  have:=Blk.new (w.alloc (.cells (gcells G S I J) 23)) 32 256 z
  simp only [World.size_alloc] at this
  exact this
 have hL:Below w.heap.size w W:=by rw [hW];exact ((Below.refl _ _).alloc (Nat.le_refl _) _).alloc (by simp) _
 have HW:=Lib.hid hW
 clear hW hT
 go_enter Tryz.func16,Tryz.ntmps16
 have hS0:At ((w.alloc (.cells (gcells G S I J) 23)).alloc (.cells (Ks .u8 256 z).toArray 32)) w.heap.size 23 (gcells G S I J):=(At.new w _ _).alloc _
 go_wp2_with (first | (refine wp_loadAtG rfl 23 (.tmp 2) rfl _ _ _ rfl hS0 Tryz.underlying23 rfl (by kernel_rfl) ?_))
 rw [← HW.out]
 clear HW hS0
 refine (geoMay_any G S I J W).mono ?_
 rintro e w1 ⟨rfl,hb1⟩
 have hS1:=hS.below hb1 hS.lt
 have hB1:=hB.below hb1 hB.lt
 have hL1:Below w.heap.size w w1:=hL.trans (hb1.mono hL.size)
 clear hS hB hL hb1
 cases hm:mayG G S I J with
 | false =>
  have HO:Hid (RdPost w G S I J z (.slice none 0 0) 50 w1):=.inr ⟨by unfold rdOk;rw [hm];rfl,by rw [hm];rfl,rfl⟩
  clear hm
  go_wp2_with fail
  go_ret2
  exact ⟨_,_,rfl,HO.out,hL1⟩
 | true =>
 have HM:=Lib.hid hm
 have hG:1 ≤ G ∧ G ≤ 4:=by
  obtain ⟨h1,h2,h3,h4,h5,h6,h7,h8,h9,h10,h11⟩:=(mayG_iff G S I J).1 hm
  exact ⟨h1,h2⟩
 clear hm
 have HF:Hid (∀ W,rdIn G S I J z = false → RdPost w G S I J z (.slice none 0 0) 60 W):=fun W h => .inr ⟨by unfold rdOk;rw [HM.out,h];rfl,by rw [HM.out];rfl,rfl⟩
 obtain ⟨n,hn⟩:∃ n:Nat,G = (n:Int):=⟨G.toNat,by omega⟩
 have HGN:Hid (G.toNat = n):=by show _ = _;omega
 have hn4:1 ≤ n ∧ n ≤ 4:=by omega
 have hP:At (w1.alloc (.cells (Ks .u8 256 (fun _ => 0)).toArray 108)) w1.heap.size 108 (Ks .u8 256 (fun _ => 0)).toArray:=At.new _ _ _
 have hsz:=hB1.lt
 have HS1:=Lib.hid (hS1.alloc (.cells (Ks .u8 256 (fun _ => 0)).toArray 108))
 have HL1:Hid (Below w.heap.size w (w1.alloc (.cells (Ks .u8 256 (fun _ => 0)).toArray 108))):=hL1.alloc hL1.size _
 have HNEQ:=Lib.hid hn
 clear hS1 hL1 hn
 go_wp2_with (first | (refine wp_loadBlkG rfl (.tmp 3) rfl (w.heap.size + 1) z rfl hB1 ?_) | (refine wp_build1 rfl 108 0 (.tmp 12) rfl (bval z) _ rfl (hbd _) ?_) | (refine wp_storeAt rfl 108 (.tmp 6) (.tmp 13) rfl w1.heap.size (Ks .u8 256 z).toArray (Ks .u8 256 (fun _ => 0)).toArray rfl rfl hP (info_page' z) (by rw [Ks_size,Ks_size]) (Ks_one _ _ _) ?_))
 intro w2 hP2 ho2
 obtain ⟨g,hg⟩:∃ g,w1.heap.size = g:=⟨_,rfl⟩
 rw [hg] at hP2 ho2 ⊢
 have st0:Hid (RD w G S I J g z w2):=⟨HS1.out.only ho2 (by omega),hP2.blk,HL1.out.trans (ho2.below (by omega))⟩
 have hgl:w.heap.size + 2 ≤ g:=by omega
 clear HS1 HL1 hP hP2 ho2 hB1 hsz hg hbd
 go_wp2_with fail
 refine (pageSealed_any g z hzb _ st0.out.p (HT.out.below st0.out.bel (Nat.le_refl _))).mono ?_
 rintro e w3 ⟨rfl,hb3⟩
 have st3:=Lib.hid (st0.out.below hb3)
 clear st0 hb3
 cases hc4:sumB z with
 | false =>
  have HX:Hid (rdIn G S I J z = false):=by show _ = _;unfold rdIn;rw [hc4];rfl
  clear hc4
  go_wp2_with fail
  go_ret2
  exact ⟨_,_,rfl,HF.out _ HX.out,st3.out.bel⟩
 | true =>
 have HC4:=Lib.hid hc4
 clear hc4
 have hc0:w3.cell? ⟨w.heap.size,0,none⟩ = some (.int .i64 G):=st3.out.s.cell (i:=0) rfl
 go_wp2_with fail
 refine (pageNoughts_any g z (8 * n) 252 _ 252 (by have:=HNEQ.out;omega) rfl (by omega) (by omega) (by omega) _ st3.out.p).mono ?_
 rintro e wx ⟨rfl,rfl⟩
 cases hc5:allZ (fun i => z (8 * n + i)) (252 - 8 * n) with
 | false =>
  have HX:Hid (rdIn G S I J z = false):=by show _ = _;unfold rdIn;rw [HC4.out,HGN.out,hc5];rfl
  clear hc5
  go_wp2_with fail
  go_ret2
  exact ⟨_,_,rfl,HF.out _ HX.out,st3.out.bel⟩
 | true =>
 have HIN:Hid (rdIn G S I J z = (allB (fun k => hd z (4 * k + 3) == 0) n && mayD G S I J n (rB z) (rI z) (rD z))):=by show _ = _;unfold rdIn;rw [HC4.out,HGN.out,hc5];rfl
 clear hc5 HC4
 have hmk:=fun W => run_mkrow (P:=Tryz.prog) 51 67 (dval 0 0 0) 3 24 Tryz.underlying51 info_desc3 .i64 .i64 n (by omega) (by omega) W
 have hn:=HNEQ.out
 rw [← hn] at hmk
 clear hn
 have HA0:=Lib.hid (RArr.made (m:=3) w3 (dcells 0 0 0) rfl (by omega) n 67)
 have st4:Hid (RD w G S I J g z (w3.alloc (.cells (madeCells (dval 0 0 0).cells (n * 3)) 67))):=st3.out.below ((Below.refl _ _).alloc (Nat.le_refl _) _)
 have hql:g < w3.heap.size:=st3.out.p.lt
 clear st3
 go_wp2_with fail
 obtain ⟨q,hq⟩:∃ q,w3.heap.size = q:=⟨_,rfl⟩
 rw [hq] at HA0 hql ⊢
 have HA1:Hid (RArr (w3.alloc (.cells (madeCells (dval 0 0 0).cells (n * 3)) 67)) q 67 3 n (mixR z 0)):=HA0.out.congr fun i _ => rfl
 clear HA0 hmk hq
 go_loopw [28] (fun u wr => ∃ k:Nat,k ≤ n ∧ u = .int .i64 (k:Int) ∧ Hid (allB (fun k => hd z (4 * k + 3) == 0) k = true) ∧ RD w G S I J g z wr ∧ RArr wr q 67 3 n (mixR z k)) (fun u _ => n - (intOf u).toNat)
 case atStart => exact ⟨0,by omega,rfl,rfl,st4.out,HA1.out⟩
 case round =>
  clear st4 HA1 hc0
  obtain ⟨k,hk,rfl,HALL,st,harr⟩:=hrel
  have ST:=Lib.hid st
  have HARR:=Lib.hid harr
  clear st harr
  by_cases hlt:k < n
  ·go_wp2_with fail
   refine (pageNoughts_any g z (8 * k + 6) (8 * k + 8) _ _ (by omega) (by omega) (by omega) (by omega) (by omega) _ ST.out.p).mono ?_
   rintro e wx ⟨rfl,rfl⟩
   rw [show 8 * k + 8 - (8 * k + 6) = 2 by omega,zero_half z hzb]
   cases hzq:(hd z (4 * k + 3) == 0) with
   | false =>
    have HX:Hid (rdIn G S I J z = false):=by show _ = _;rw [HIN.out,allB_no hlt hzq];rfl
    clear hzq
    go_wp2_with fail
    go_ret2
    exact ⟨_,_,rfl,HF.out _ HX.out,ST.out.bel⟩
   | true =>
    have HALL2:Hid (allB (fun k => hd z (4 * k + 3) == 0) (k + 1) = true):=by show (allB _ k && (hd z (4 * k + 3) == 0)) = true;rw [HALL.out,hzq];rfl
    clear hzq HALL
    go_wp2_with fail
    refine (getDesc_any g z hzb k _ (by omega) (by omega) _ ST.out.p).mono ?_
    rintro e w6 ⟨rfl,hb6⟩
    have st6:=Lib.hid (ST.out.below hb6)
    have HARR6:=Lib.hid (HARR.out.below hb6)
    clear ST HARR hb6
    have hth:=HARR6.out.there hlt
    have hset:=Lib.hid (HARR6.out.set hlt (vs:=[.int .i64 (rB z k),.int .i64 (rI z k),.int .i64 (rD z k)]) rfl (mixR_len z k))
    go_wp2_with (first | (refine wpList_store_mid rfl 67 (.tmp 45) (.tmp 44) rfl q (k * 3) (dcells (rB z k) (rI z k) (rD z k)) rfl rfl hth info_desc (all_d _ _ _) ?_))
    have st7:=st6.out.only hset.out.2 (by omega) (by omega)
    have harr7:RArr (w6.setCells q (k * 3) [.int .i64 (rB z k),.int .i64 (rI z k),.int .i64 (rD z k)]) q 67 3 n (mixR z (k + 1)):=hset.out.1.congr fun i _ => by
     unfold mixR
     by_cases e:i = k
     ·subst e;rw [if_pos rfl,if_pos (by omega)];rfl
     ·rw [if_neg e]
      by_cases e2:i < k
      ·rw [if_pos e2,if_pos (by omega)]
      ·rw [if_neg e2,if_neg (by omega)]
    generalize w6.setCells q (k * 3) [.int .i64 (rB z k),.int .i64 (rI z k),.int .i64 (rD z k)] = w7 at *
    clear st6 HARR6 hset hth
    go_roundw
    case rel => first | exact ⟨k + 1,by omega,by go_num,HALL2,st7,harr7⟩ | exact ⟨k + 1,by omega,rfl,HALL2,st7,harr7⟩
    case measure => simp [intOf];omega
  ·obtain rfl:k = n:=by omega
   have hs:=ST.out.s
   have hrow:RRow wr (some ⟨q,0,none⟩) 3 k (df (rB z) (rI z) (rD z)):=.inr ⟨q,0,rfl,(HARR.out.congr (f':=df (rB z) (rI z) (rD z)) fun i hi => by unfold mixR;rw [if_pos hi]).seg⟩
   have HROW:=Lib.hid hrow
   clear hrow
   go_wp2_with (first | (refine wp_loadAtG rfl 23 (.tmp 2) rfl _ _ _ rfl hs Tryz.underlying23 rfl (by kernel_rfl) ?_))
   refine (superMay_any G S I J HM.out _ k _ _ _ _ (by omega) _ HROW.out).mono ?_
   rintro e w8 ⟨rfl,hb8⟩
   cases hmd:mayD G S I J k (rB z) (rI z) (rD z) with
   | false =>
    have HX:Hid (rdIn G S I J z = false):=by show _ = _;rw [HIN.out,hmd,Bool.and_false]
    have HBL:Hid (Below w.heap.size w w8):=ST.out.bel.trans (hb8.mono ST.out.bel.size)
    clear hmd hb8 hs
    go_wp2_with fail
    go_ret2
    exact ⟨_,_,rfl,HF.out _ HX.out,HBL.out⟩
   | true =>
    have HX:Hid (rdOk G S I J z = true):=by show _ = _;unfold rdOk;rw [HM.out,HIN.out,hmd,HALL.out];rfl
    have HBL:Hid (Below w.heap.size w w8):=ST.out.bel.trans (hb8.mono ST.out.bel.size)
    have HMI:Hid (RMine w8 w.heap.size 67 3 (.slice (some ⟨q,0,none⟩) k k) k (df (rB z) (rI z) (rD z))) :=
     (((HARR.out.congr (f':=df (rB z) (rI z) (rD z)) fun i hi => by unfold mixR;rw [if_pos hi]).below hb8).mine (df_len _ _ _) (by omega) (by unfold maxLen;omega))
    clear hmd hb8 hs
    go_wp2_with fail
    go_ret2
    exact ⟨_,_,rfl,.inl ⟨HX.out,rfl,by rw [HGN.out];exact HMI.out⟩,HBL.out⟩
theorem rputH (g:Nat) {T:TypeId} (l:Nat → Int) (k:Nat) (K v:Int) (hK:K = 2 * (k:Int)) (hk:k < 128) (hv:0 ≤ v) (hv2:v ≤ 65535) (w:World) (hB:Blk w g T 256 (hz l)) :
  Calls Tryz.prog 97 #[.slice (some ⟨g,0,none⟩) 256 256,.int .i64 K,.int .u32 v] w fun e w' => e = .returned (.bool true) ∧ Blk w' g T 256 (hz (upd l k v)) ∧ Only g w w':=by
 refine (rput16_yes g 0 256 256 K v (hz l) w (by omega) (by omega) (by omega) hv hv2 hB.seg (hz_byt l) (hB.soft 0 256)).mono fun e w' ⟨he,hp⟩ => ⟨he,?_,hp.only⟩
 rw [show 0 + K.toNat = 2 * k by omega] at hp
 exact (hB.puts hp).congr fun i _ => hz_put l k v i
theorem rputH4 (g:Nat) {T:TypeId} (l:Nat → Int) (k:Nat) (K v:Int) (hK:K = 2 * (k:Int)) (hk:k + 1 < 128) (hv:0 ≤ v) (hv2:v < 4294967296) (w:World) (hB:Blk w g T 256 (hz l)) :
  Calls Tryz.prog 71 #[.slice (some ⟨g,0,none⟩) 256 256,.int .i64 K,.int .u32 v] w fun e w' => e = .returned (.bool true) ∧ Blk w' g T 256 (hz (upd2 l k v)) ∧ Only g w w':=by
 refine (rput32_yes g 0 256 256 K v (hz l) w (by omega) (by omega) (by omega) hv hv2 hB.seg (hz_byt l) (hB.soft 0 256)).mono fun e w' ⟨he,hp⟩ => ⟨he,?_,hp.only⟩
 rw [show 0 + K.toNat = 2 * k by omega] at hp
 exact (hB.puts hp).congr fun i _ => hz_put4 l k v i
structure SeC (w:World) (z:Nat → Int) (j:Nat) (W:World):Prop where
 b:Blk W w.heap.size 32 256 (if j ≤ 1 then z else sealZ z)
 r:Blk W (w.heap.size + 1) 32 256 (fun _ => 0)
 bel:Below w.heap.size w W
theorem rsealed_any (z:Nat → Int) (hzb:Byt z) (w:World) :
  Calls Tryz.prog 98 #[bval z] w fun e w' => e = .returned (bval (sealZ z)) ∧ Below w.heap.size w w':=by
 have hal:=zero_block
 have hB:Blk ((w.alloc (.cells (Ks .u8 256 z).toArray 32)).alloc (.cells (Ks .u8 256 (fun _ => 0)).toArray 32)) w.heap.size 32 256 z:=(Blk.new _ _ _ _).alloc _
 have hR:Blk ((w.alloc (.cells (Ks .u8 256 z).toArray 32)).alloc (.cells (Ks .u8 256 (fun _ => 0)).toArray 32)) (w.heap.size + 1) 32 256 (fun _ => 0):=by
  have:=Blk.new (w.alloc (.cells (Ks .u8 256 z).toArray 32)) 32 256 (fun _ => 0)
  simp only [World.size_alloc] at this
  exact this
 have hL:Below w.heap.size w ((w.alloc (.cells (Ks .u8 256 z).toArray 32)).alloc (.cells (Ks .u8 256 (fun _ => 0)).toArray 32)):=((Below.refl _ _).alloc (Nat.le_refl _) _).alloc (by simp) _
 have hsa:=fun W => run_sliceBlkAll w.heap.size 0 W
 have hsb:=fun W => run_sliceBlk w.heap.size 0 0 252 0 252 rfl rfl (by omega) (by omega) (by omega) W
 have hcb:=crcZ_bd z 252
 go_enter Tryz.func98,Tryz.ntmps98
 go_wp2_with fail
 refine wp_region_lin (SeC w z) (by kernel_rfl) (by kernel_rfl) (by kernel_rfl) ⟨hB,hR,hL.drew⟩ ?_
 clear hB hR hL
 intro hne
 (refine lin_take 2 (by kernel_rfl) ?_;simp only [List.take_succ_cons,List.take_zero,List.drop_succ_cons,List.drop_zero])
 first | go_big_quiet_skip | (go_big_quiet_want;go_big_quiet_op;go_big_quiet_on)
 first | go_big_quiet_skip | (go_big_quiet_want;go_big_quiet_op;go_big_quiet_on)
 refine wpQuiet_nil ?_
 refine lin_call rfl rfl 72 #[.slice (some ⟨w.heap.size,0,none⟩) 252 256] (.int .u32 (crcZ z 252)) (fun W => by kernel_rfl) (fun W h => ?c1) ?_
 case c1 =>
  refine (rSum_any (some ⟨w.heap.size,0,none⟩) 252 256 z W (by omega) (.inr ⟨_,_,rfl,h.b.seg.take 252 (by omega)⟩) hzb).mono ?_
  rintro e w6 ⟨rfl,rfl⟩
  exact ⟨rfl,h.b,h.r,h.bel⟩
 refine wpLin_frame (by simp only [Act.put,List.setIfInBounds_toArray,List.set_cons_succ,List.set_cons_zero];exact rfl) ?_
 refine lin_call rfl rfl 71 #[.slice (some ⟨w.heap.size,0,none⟩) 256 256,.int .i64 252,.int .u32 (crcZ z 252)] (.bool true) (fun W => by kernel_rfl) (fun W h => ?c2) ?_
 case c2 =>
  refine (rput32_yes w.heap.size 0 256 256 252 (crcZ z 252) z W (by omega) (by omega) (by omega) hcb.1 hcb.2 h.b.seg hzb (h.b.soft 0 256)).mono ?_
  rintro e w6 ⟨rfl,hp⟩
  exact ⟨rfl,h.b.puts hp,h.r.only hp.only (by omega),h.bel.trans (hp.only.below (Nat.le_refl _))⟩
 refine wpLin_frame (by simp only [Act.put,List.setIfInBounds_toArray,List.set_cons_succ,List.set_cons_zero];exact rfl) ?_
 refine wpLin_nil ?_
 rintro w6 ⟨hB6,hR6,hL6⟩
 rw [if_neg (by decide)] at hB6
 clear hne hsa hsb
 go_wp2_with (first | (refine wp_loadBlk rfl (.tmp 1) rfl w.heap.size (sealZ z) rfl hB6 ?_) | (refine wp_storeBlk rfl (.tmp 2) (.tmp 7) rfl (w.heap.size + 1) (sealZ z) _ rfl rfl hR6 ?_))
 intro w7 hR7 ho7
 go_wp2_with fail
 exact bodyPost_ret (results_blk rfl _ _ (w.heap.size + 1) _ rfl hR7) rfl ⟨rfl,hL6.trans (ho7.below (by omega))⟩
structure WrC (w:World) (G S I J O:Int) (g:Nat) (l:Nat → Int) (k:Nat) (v:Int) (j:Nat) (W:World):Prop where
 s:At W w.heap.size 47 (scells G S I J O)
 r:Blk W (w.heap.size + 1) 32 256 (fun _ => 0)
 b:Blk W g 32 256 (hz (if j = 0 then l else upd l k v))
 bel:Below w.heap.size w W
structure WrD (w:World) (G S I J O:Int) (g:Nat) (l:Nat → Int) (j:Nat) (W:World):Prop where
 s:At W w.heap.size 47 (scells G S I J O)
 r:Blk W (w.heap.size + 1) 32 256 (fun _ => 0)
 b:Blk W g 32 256 (hz (if j = 0 then l else upd2 l 8 O))
 bel:Below w.heap.size w W
theorem rsWrite_any (G S I J O:Int) (hO:0 ≤ O ∧ O < 4294967296) (w:World) :
  Calls Tryz.prog 60 #[sval G S I J O] w fun e w' => e = .returned (.tuple #[bval (supZ G S I J O),.int .i64 (supE G S I J O)]) ∧ Below w.heap.size w w':=by
 have hal:=zero_block
 obtain ⟨W,hW⟩:∃ W,W = (w.alloc (.cells (scells G S I J O) 47)).alloc (.cells (Ks .u8 256 (fun _ => 0)).toArray 32):=⟨_,rfl⟩
 have hS:At W w.heap.size 47 (scells G S I J O):=by rw [hW];exact (At.new w _ _).alloc _
 have hR:Blk W (w.heap.size + 1) 32 256 (fun _ => 0):=by
  rw [hW]
  have:=Blk.new (w.alloc (.cells (scells G S I J O) 47)) 32 256 (fun _ => 0)
  simp only [World.size_alloc] at this
  exact this
 have hL:Below w.heap.size w W:=by rw [hW];exact ((Below.refl _ _).alloc (Nat.le_refl _) _).alloc (by simp) _
 have HW:=Lib.hid hW
 clear hW
 go_enter Tryz.func60,Tryz.ntmps60
 have hS0:At ((w.alloc (.cells (scells G S I J O) 47)).alloc (.cells (Ks .u8 256 (fun _ => 0)).toArray 32)) w.heap.size 47 (scells G S I J O):=(At.new w _ _).alloc _
 have hg0:=hS0.geo
 go_wp2_with (first | (refine wp_loadRange rfl 23 (.tmp 5) rfl w.heap.size 0 (gcells G S I J).toList _ rfl hg0 Tryz.underlying23 rfl (by kernel_rfl) ?_))
 rw [← HW.out]
 clear HW hS0 hg0
 refine (rMay5_any G S I J W).mono ?_
 rintro e w1 ⟨rfl,hb1⟩
 have hS1:=hS.below hb1 hS.lt
 have hR1:=hR.below hb1 hR.lt
 have hL1:Below w.heap.size w w1:=hL.trans (hb1.mono hL.size)
 clear hS hR hL hb1
 cases hm:mayG G S I J with
 | false =>
  have HO:Hid (supOk G S I J O = false ∧ supE G S I J O = 50):=by show _ ∧ _;unfold supOk supE;rw [hm];exact ⟨rfl,rfl⟩
  clear hm
  go_wp2_with (first | (refine wp_storeBlk rfl (.tmp 2) (.tmp 9) rfl (w.heap.size + 1) (fun _ => 0) _ rfl rfl hR1 ?_))
  intro w2 hR2 ho2
  go_wp2_with fail
  exact bodyPost_ret (results_blk2 rfl _ _ (w.heap.size + 1) _ rfl hR2) rfl ⟨by rw [supZ,HO.out.1,HO.out.2];rfl,hL1.trans (ho2.below (by omega))⟩
 | true =>
 have HM:=Lib.hid hm
 obtain ⟨p1,p2,p3,p4,p5,p6,p7,p8,p9,p10,p11⟩:=(mayG_iff G S I J).1 hm
 have hgi:=GI_bd p1 p2 p5 p6
 have hw:IntKind.i64.wrap (G * I) = G * I:=IntWalk.i64_in _ (by omega)
 have hnI:Hid (nIn G S I J = G * I):=by show _ = _;unfold nIn;rw [hm];rfl
 have hwo:IntKind.i64.wrap O = O:=IntWalk.i64_in _ (by omega)
 have c0:w1.cell? ⟨w.heap.size,0,none⟩ = some (.int .i64 G):=hS1.cell (i:=0) rfl
 have c2:w1.cell? ⟨w.heap.size,2,none⟩ = some (.int .i64 I):=hS1.cell (i:=2) rfl
 have c4:w1.cell? ⟨w.heap.size,4,none⟩ = some (.int .u32 O):=hS1.cell (i:=4) rfl
 clear hm p7 p10 p11
 by_cases ho:O ≤ G * I
 rotate_left
 ·have HO:Hid (supOk G S I J O = false ∧ supE G S I J O = 2):=by
   show _ ∧ _
   unfold supOk supE;rw [HM.out,hnI.out,if_pos rfl,if_neg ho,decide_eq_false ho];exact ⟨rfl,rfl⟩
  have hq:decide (G * I < O) = true:=by rw [decide_eq_true_eq];omega
  clear ho
  go_wp2_with (first | (refine wp_storeBlk rfl (.tmp 2) (.tmp 21) rfl (w.heap.size + 1) (fun _ => 0) _ rfl rfl hR1 ?_))
  intro w3 hR3 ho3
  go_wp2_with fail
  exact bodyPost_ret (results_blk2 rfl _ _ (w.heap.size + 1) _ rfl hR3) rfl ⟨by rw [supZ,HO.out.1,HO.out.2];rfl,hL1.trans (ho3.below (by omega))⟩
 have hq:decide (G * I < O) = false:=by rw [decide_eq_false_iff_not];omega
 have HO:Hid (supOk G S I J O = true ∧ supE G S I J O = 0):=by
  show _ ∧ _
  unfold supOk supE;rw [HM.out,hnI.out,if_pos rfl,if_pos ho,decide_eq_true ho];exact ⟨rfl,rfl⟩
 clear ho
 have hgl1:=hR1.lt
 obtain ⟨g,hg⟩:∃ g,g = w1.heap.size:=⟨_,rfl⟩
 have hg2:w.heap.size + 2 ≤ g:=by omega
 have st0:Hid (WrC w G S I J O g (fun _ => 0) 0 0 0 (w1.alloc (.cells (Ks .u8 256 (fun _ => 0)).toArray 32))) :=
  ⟨hS1.alloc _,hR1.alloc _,by rw [hg];exact (Blk.new w1 _ _ _).congr fun i _ => (hz_zero i).symm,hL1.alloc hL1.size _⟩
 have hsa:=fun W => run_sliceBlkAll g 0 W
 have hsa1:=hsa
 rw [hg] at hsa1
 clear hS1 hR1 hL1 hgl1
 go_wp2_with fail
 rw [← hg]
 clear hg hsa1 hq c0 c2 c4 hw hgi
 have e1:G % 4294967296 = G:=by omega
 have e2:S % 4294967296 = S:=by omega
 have e3:I % 4294967296 = I:=by omega
 have e4:J % 4294967296 = J:=by omega
 refine (rputH4 g _ 0 0 827216465 rfl (by omega) (by omega) (by omega) _ st0.out.b).mono ?_
 rintro e w2 ⟨rfl,hB2,ho2⟩
 have st1:Hid (WrC w G S I J O g (upd2 (fun _ => 0) 0 827216465) 0 0 0 w2):=⟨st0.out.s.only ho2 (by omega),st0.out.r.only ho2 (by omega),hB2,st0.out.bel.trans (ho2.below (by omega))⟩
 clear st0 hB2 ho2
 go_wp2_with fail
 refine (rputH g _ 2 4 1 rfl (by omega) (by omega) (by omega) _ st1.out.b).mono ?_
 rintro e w3 ⟨rfl,hB3,ho3⟩
 have st2:Hid (WrC w G S I J O g (upd (upd2 (fun _ => 0) 0 827216465) 2 1) 0 0 0 w3):=⟨st1.out.s.only ho3 (by omega),st1.out.r.only ho3 (by omega),hB3,st1.out.bel.trans (ho3.below (by omega))⟩
 clear st1 hB3 ho3
 go_wp2_with fail
 refine (rputH g _ 3 6 256 rfl (by omega) (by omega) (by omega) _ st2.out.b).mono ?_
 rintro e w4 ⟨rfl,hB4,ho4⟩
 have st3:WrC w G S I J O g (upd (upd (upd2 (fun _ => 0) 0 827216465) 2 1) 3 256) 0 0 0 w4:=⟨st2.out.s.only ho4 (by omega),st2.out.r.only ho4 (by omega),hB4,st2.out.bel.trans (ho4.below (by omega))⟩
 clear st2 hB4 ho4
 obtain ⟨l3,hl3⟩:∃ l,l = upd (upd (upd2 (fun _ => 0) 0 827216465) 2 1) 3 256:=⟨_,rfl⟩
 rw [← hl3] at st3
 have HL3:=Lib.hid hl3
 clear hl3
 have hf4:∀ x:InW (fun W => ∃ j,WrC w G S I J O g l3 4 G j W),x.W.cell? ⟨w.heap.size,0,none⟩ = some (.int .i64 G):=fun x => by obtain ⟨j,h⟩:=x.h;exact h.s.cell (i:=0) rfl
 go_wp2_with fail
 refine wp_region_lin (WrC w G S I J O g l3 4 G) (by kernel_rfl) (by kernel_rfl) (by kernel_rfl) ⟨st3.s,st3.r,st3.b,st3.bel.drew⟩ ?_
 clear st3
 intro hne
 (refine lin_take 5 (by kernel_rfl) ?_;simp only [List.take_succ_cons,List.take_zero,List.drop_succ_cons,List.drop_zero])
 first | go_big_quiet_skip | (go_big_quiet_want;go_big_quiet_op;go_big_quiet_on)
 first | go_big_quiet_skip | (go_big_quiet_want;go_big_quiet_op;go_big_quiet_on)
 first | go_big_quiet_skip | (go_big_quiet_want;go_big_quiet_op;go_big_quiet_on)
 first | go_big_quiet_skip | (go_big_quiet_want;go_big_quiet_op;go_big_quiet_on)
 first | go_big_quiet_skip | (go_big_quiet_want;go_big_quiet_op;go_big_quiet_on)
 refine wpQuiet_nil ?_
 refine lin_call rfl rfl 97 #[.slice (some ⟨g,0,none⟩) 256 256,.int .i64 8,.int .u32 G] (.bool true) (fun W => by kernel_rfl) (fun W h => ?c4) ?_
 case c4 =>
  refine (rputH g l3 4 8 G rfl (by omega) (by omega) (by omega) W h.b).mono ?_
  rintro e w6 ⟨rfl,hB6,ho6⟩
  exact ⟨rfl,h.s.only ho6 (by omega),h.r.only ho6 (by omega),hB6,h.bel.trans (ho6.below (by omega))⟩
 refine wpLin_frame (by simp only [Act.put,List.setIfInBounds_toArray,List.set_cons_succ,List.set_cons_zero];exact rfl) ?_
 refine wpLin_nil ?_
 intro w14 st4'
 have st4:WrC w G S I J O g (upd l3 4 G) 0 0 0 w14:=⟨st4'.s,st4'.r,st4'.b,st4'.bel⟩
 clear hne hf4 st4'
 obtain ⟨l4,hl4⟩:∃ l,l = upd l3 4 G:=⟨_,rfl⟩
 rw [← hl4] at st4
 have HL4:=Lib.hid hl4
 clear hl4
 have hf5:∀ x:InW (fun W => ∃ j,WrC w G S I J O g l4 5 S j W),x.W.cell? ⟨w.heap.size,1,none⟩ = some (.int .i64 S):=fun x => by obtain ⟨j,h⟩:=x.h;exact h.s.cell (i:=1) rfl
 go_wp2_with fail
 refine wp_region_lin (WrC w G S I J O g l4 5 S) (by kernel_rfl) (by kernel_rfl) (by kernel_rfl) ⟨st4.s,st4.r,st4.b,st4.bel.drew⟩ ?_
 clear st4
 intro hne
 (refine lin_take 5 (by kernel_rfl) ?_;simp only [List.take_succ_cons,List.take_zero,List.drop_succ_cons,List.drop_zero])
 first | go_big_quiet_skip | (go_big_quiet_want;go_big_quiet_op;go_big_quiet_on)
 first | go_big_quiet_skip | (go_big_quiet_want;go_big_quiet_op;go_big_quiet_on)
 first | go_big_quiet_skip | (go_big_quiet_want;go_big_quiet_op;go_big_quiet_on)
 first | go_big_quiet_skip | (go_big_quiet_want;go_big_quiet_op;go_big_quiet_on)
 first | go_big_quiet_skip | (go_big_quiet_want;go_big_quiet_op;go_big_quiet_on)
 refine wpQuiet_nil ?_
 refine lin_call rfl rfl 97 #[.slice (some ⟨g,0,none⟩) 256 256,.int .i64 10,.int .u32 S] (.bool true) (fun W => by kernel_rfl) (fun W h => ?c5) ?_
 case c5 =>
  refine (rputH g l4 5 10 S rfl (by omega) (by omega) (by omega) W h.b).mono ?_
  rintro e w6 ⟨rfl,hB6,ho6⟩
  exact ⟨rfl,h.s.only ho6 (by omega),h.r.only ho6 (by omega),hB6,h.bel.trans (ho6.below (by omega))⟩
 refine wpLin_frame (by simp only [Act.put,List.setIfInBounds_toArray,List.set_cons_succ,List.set_cons_zero];exact rfl) ?_
 refine wpLin_nil ?_
 intro w15 st5'
 have st5:WrC w G S I J O g (upd l4 5 S) 0 0 0 w15:=⟨st5'.s,st5'.r,st5'.b,st5'.bel⟩
 clear hne hf5 st5'
 obtain ⟨l5,hl5⟩:∃ l,l = upd l4 5 S:=⟨_,rfl⟩
 rw [← hl5] at st5
 have HL5:=Lib.hid hl5
 clear hl5
 have hf6:∀ x:InW (fun W => ∃ j,WrC w G S I J O g l5 6 I j W),x.W.cell? ⟨w.heap.size,2,none⟩ = some (.int .i64 I):=fun x => by obtain ⟨j,h⟩:=x.h;exact h.s.cell (i:=2) rfl
 go_wp2_with fail
 refine wp_region_lin (WrC w G S I J O g l5 6 I) (by kernel_rfl) (by kernel_rfl) (by kernel_rfl) ⟨st5.s,st5.r,st5.b,st5.bel.drew⟩ ?_
 clear st5
 intro hne
 (refine lin_take 5 (by kernel_rfl) ?_;simp only [List.take_succ_cons,List.take_zero,List.drop_succ_cons,List.drop_zero])
 first | go_big_quiet_skip | (go_big_quiet_want;go_big_quiet_op;go_big_quiet_on)
 first | go_big_quiet_skip | (go_big_quiet_want;go_big_quiet_op;go_big_quiet_on)
 first | go_big_quiet_skip | (go_big_quiet_want;go_big_quiet_op;go_big_quiet_on)
 first | go_big_quiet_skip | (go_big_quiet_want;go_big_quiet_op;go_big_quiet_on)
 first | go_big_quiet_skip | (go_big_quiet_want;go_big_quiet_op;go_big_quiet_on)
 refine wpQuiet_nil ?_
 refine lin_call rfl rfl 97 #[.slice (some ⟨g,0,none⟩) 256 256,.int .i64 12,.int .u32 I] (.bool true) (fun W => by kernel_rfl) (fun W h => ?c6) ?_
 case c6 =>
  refine (rputH g l5 6 12 I rfl (by omega) (by omega) (by omega) W h.b).mono ?_
  rintro e w6 ⟨rfl,hB6,ho6⟩
  exact ⟨rfl,h.s.only ho6 (by omega),h.r.only ho6 (by omega),hB6,h.bel.trans (ho6.below (by omega))⟩
 refine wpLin_frame (by simp only [Act.put,List.setIfInBounds_toArray,List.set_cons_succ,List.set_cons_zero];exact rfl) ?_
 refine wpLin_nil ?_
 intro w16 st6'
 have st6:WrC w G S I J O g (upd l5 6 I) 0 0 0 w16:=⟨st6'.s,st6'.r,st6'.b,st6'.bel⟩
 clear hne hf6 st6'
 obtain ⟨l6,hl6⟩:∃ l,l = upd l5 6 I:=⟨_,rfl⟩
 rw [← hl6] at st6
 have HL6:=Lib.hid hl6
 clear hl6
 have hf7:∀ x:InW (fun W => ∃ j,WrC w G S I J O g l6 7 J j W),x.W.cell? ⟨w.heap.size,3,none⟩ = some (.int .i64 J):=fun x => by obtain ⟨j,h⟩:=x.h;exact h.s.cell (i:=3) rfl
 go_wp2_with fail
 refine wp_region_lin (WrC w G S I J O g l6 7 J) (by kernel_rfl) (by kernel_rfl) (by kernel_rfl) ⟨st6.s,st6.r,st6.b,st6.bel.drew⟩ ?_
 clear st6
 intro hne
 (refine lin_take 5 (by kernel_rfl) ?_;simp only [List.take_succ_cons,List.take_zero,List.drop_succ_cons,List.drop_zero])
 first | go_big_quiet_skip | (go_big_quiet_want;go_big_quiet_op;go_big_quiet_on)
 first | go_big_quiet_skip | (go_big_quiet_want;go_big_quiet_op;go_big_quiet_on)
 first | go_big_quiet_skip | (go_big_quiet_want;go_big_quiet_op;go_big_quiet_on)
 first | go_big_quiet_skip | (go_big_quiet_want;go_big_quiet_op;go_big_quiet_on)
 first | go_big_quiet_skip | (go_big_quiet_want;go_big_quiet_op;go_big_quiet_on)
 refine wpQuiet_nil ?_
 refine lin_call rfl rfl 97 #[.slice (some ⟨g,0,none⟩) 256 256,.int .i64 14,.int .u32 J] (.bool true) (fun W => by kernel_rfl) (fun W h => ?c7) ?_
 case c7 =>
  refine (rputH g l6 7 14 J rfl (by omega) (by omega) (by omega) W h.b).mono ?_
  rintro e w6 ⟨rfl,hB6,ho6⟩
  exact ⟨rfl,h.s.only ho6 (by omega),h.r.only ho6 (by omega),hB6,h.bel.trans (ho6.below (by omega))⟩
 refine wpLin_frame (by simp only [Act.put,List.setIfInBounds_toArray,List.set_cons_succ,List.set_cons_zero];exact rfl) ?_
 refine wpLin_nil ?_
 intro w17 st7'
 have st7:WrC w G S I J O g (upd l6 7 J) 0 0 0 w17:=⟨st7'.s,st7'.r,st7'.b,st7'.bel⟩
 clear hne hf7 st7'
 obtain ⟨l7,hl7⟩:∃ l,l = upd l6 7 J:=⟨_,rfl⟩
 rw [← hl7] at st7
 have HL7:=Lib.hid hl7
 clear hl7
 have hf8:∀ x:InW (fun W => ∃ j,WrD w G S I J O g l7 j W),x.W.cell? ⟨w.heap.size,4,none⟩ = some (.int .u32 O):=fun x => by obtain ⟨j,h⟩:=x.h;exact h.s.cell (i:=4) rfl
 go_wp2_with fail
 refine wp_region_lin (WrD w G S I J O g l7) (by kernel_rfl) (by kernel_rfl) (by kernel_rfl) ⟨st7.s,st7.r,st7.b,st7.bel.drew⟩ ?_
 clear st7
 intro hne
 (refine lin_take 3 (by kernel_rfl) ?_;simp only [List.take_succ_cons,List.take_zero,List.drop_succ_cons,List.drop_zero])
 first | go_big_quiet_skip | (go_big_quiet_want;go_big_quiet_op;go_big_quiet_on)
 first | go_big_quiet_skip | (go_big_quiet_want;go_big_quiet_op;go_big_quiet_on)
 first | go_big_quiet_skip | (go_big_quiet_want;go_big_quiet_op;go_big_quiet_on)
 refine wpQuiet_nil ?_
 refine lin_call rfl rfl 71 #[.slice (some ⟨g,0,none⟩) 256 256,.int .i64 16,.int .u32 O] (.bool true) (fun W => by kernel_rfl) (fun W h => ?c8) ?_
 case c8 =>
  refine (rputH4 g l7 8 16 O rfl (by omega) hO.1 hO.2 W h.b).mono ?_
  rintro e w6 ⟨rfl,hB6,ho6⟩
  exact ⟨rfl,h.s.only ho6 (by omega),h.r.only ho6 (by omega),hB6,h.bel.trans (ho6.below (by omega))⟩
 refine wpLin_frame (by simp only [Act.put,List.setIfInBounds_toArray,List.set_cons_succ,List.set_cons_zero];exact rfl) ?_
 refine wpLin_nil ?_
 rintro w18 ⟨_,hR18,hB18,hL18⟩
 rw [if_neg (by decide)] at hB18
 have HLL:Hid (upd2 l7 8 O = supH G S I J O):=by show _ = _;rw [HL7.out,HL6.out,HL5.out,HL4.out,HL3.out];rfl
 rw [HLL.out] at hB18
 clear hne hf8 hsa HLL HL3 HL4 HL5 HL6 HL7
 go_wp2_with (first | (refine wp_loadBlk rfl (.tmp 4) rfl g (hz (supH G S I J O)) rfl hB18 ?_))
 refine (rsealed_any _ (hz_byt _) _).mono ?_
 rintro e w19 ⟨rfl,hb19⟩
 have hR19:=hR18.below hb19 hR18.lt
 have hL19:Below w.heap.size w w19:=hL18.trans (hb19.mono hL18.size)
 clear hR18 hB18 hL18 hb19
 go_wp2_with (first | (refine wp_storeBlk rfl (.tmp 2) (.tmp 57) rfl (w.heap.size + 1) (sealZ (hz (supH G S I J O))) _ rfl rfl hR19 ?_))
 intro w20 hR20 ho20
 go_wp2_with fail
 exact bodyPost_ret (results_blk2 rfl _ _ (w.heap.size + 1) _ rfl hR20) rfl ⟨by rw [supZ,HO.out.1,HO.out.2];rfl,hL19.trans (ho20.below (by omega))⟩
end Go.Proofs.YtphamecphmbipaaGreatDoor
