/- Texts of this claim, merged by a program (a claim may have 60 files): U6d. -/
import Derived.Test.YtopakpmepioomaaDoorK09
/- super.Read. -/
namespace Go.Proofs.YtopakpmepioomaaDoor
open Go.RowKit
set_option linter.unusedVariables false

def readA (z : Nat → Int) : Bool := (g32 z 0 == 827216465) && ((hd z 2 == 1) && ((hd z 3 == 256) && (sumB z && allZ (fun i => z (20 + i)) 232)))
def readE (z : Nat → Int) : Int := if readA z then (if mayG (hd z 4) (hd z 5) (hd z 6) (hd z 7) then (if g32 z 16 ≤ nIn (hd z 4) (hd z 5) (hd z 6) (hd z 7) then 0 else 60) else 50) else 60
def readV (z : Nat → Int) : Value := if readE z = 0 then sval (hd z 4) (hd z 5) (hd z 6) (hd z 7) (g32 z 16) else sval 0 0 0 0 0
theorem readV_no {z : Nat → Int} (h : readE z = 60 ∨ readE z = 50) : readV z = sval 0 0 0 0 0 := by unfold readV; rw [if_neg (by omega)]

structure RS (w : World) (g : Nat) (z : Nat → Int) (W : World) : Prop where
  r : At W (w.heap.size + 1) 42 (scells 0 0 0 0 0)
  p : Blk W g 87 256 z
  t : Tab W
  bel : Below w.heap.size w W
theorem RS.below {w : World} {g : Nat} {z : Nat → Int} {W W' : World} (h : RS w g z W) (hb : Below W.heap.size W W') : RS w g z W' :=
  ⟨h.r.below hb h.r.lt, h.p.below hb h.p.lt, h.t.below hb (Nat.le_refl _), h.bel.trans (hb.mono h.bel.size)⟩
theorem results_sup2 {fn : Func} {p u : Tmp} (h : fn.results = #[.cell p 42, .tmp u]) (tmps : Array Value) (w : World) (g : Nat) (G S I J O : Int)
    (hp : tmps.getD p undef = .pointer (some ⟨g, 0, none⟩)) (hg : At w g 42 (scells G S I J O)) : (results fn tmps).run Tryd.prog w = .ok (.tuple #[sval G S I J O, tmps.getD u undef]) w :=
  results_row_tmp h tmps w g _ _ _ _ hp hg Tryd.underlying42 rfl (by kernel_rfl)

set_option maxRecDepth 100000 in
theorem build_page (z : Nat → Int) (w : World) : (Instr.build 87 #[(0, bval z)]).run Tryd.prog w = .ok (.agg (Ks .u8 256 z).toArray) w := by kernel_rfl
theorem wp_build1 {P : Program} {w : World} {ops : Array Oper} {rest : List Oper} {o : Oper} {a : Act} {Q : Exit → Act → World → Prop} (hw : Region.wanted o (yielded ops a.tmps) = true) (T : TypeId) (i : Nat) (x : Operand) (ho : o.op = .build T #[(i, x)])
    (u v : Value) (hx : a.eval x = u) (hb : (Instr.build T #[(i, u)]).run P w = .ok v w) (h : wpList P ops Q rest (a.put o.dst v) w) : wpList P ops Q (o :: rest) a w :=
  BigFrame.wpList_want hw fun _ hK => by
    have hr : (execOp a.eval o).run P w = .ok (.value v) w := by
      unfold execOp
      simp only [ho, List.map_toArray, List.map_cons, List.map_nil, hx, Sem.run_bind, hb, Result.andThen_ok, Sem.run_pure]
    unfold Oper.wp
    rw [hr]
    exact hK _ _ h
theorem all_s (G S I J O : Int) : (scells G S I J O).all (·.oneCell') = true := by kernel_rfl
theorem info_super : (Tryd.prog.info? 42).map (·.size) = some 5 := by kernel_rfl
theorem build_super (G S I J O : Int) (w : World) : (Instr.build 42 #[(0, gval G S I J), (1, .int .u32 O)]).run Tryd.prog w = .ok (sval G S I J O) w := by kernel_rfl
theorem At.blk {w : World} {g : Nat} {T : TypeId} {z : Nat → Int} (h : At w g T (Ks .u8 256 z).toArray) : Blk w g T 256 z := h

set_option maxRecDepth 100000 in
set_option maxHeartbeats 400000 in
theorem superRead_any (z : Nat → Int) (hzb : Byt z) (w : World) (hT : Tab w) :
    Calls Tryd.prog 15 #[bval z] w fun e w' => e = .returned (.tuple #[readV z, .int .i64 (readE z)]) ∧ Below w.heap.size w w' := by
  have hal := zero_super
  have halp := zero_page
  have hbd := fun W => build_page z W
  have hB : Blk ((w.alloc (.cells (Ks .u8 256 z).toArray 32)).alloc (.cells (scells 0 0 0 0 0) 42)) w.heap.size 32 256 z := (Blk.new w _ _ _).alloc _
  have hR : At ((w.alloc (.cells (Ks .u8 256 z).toArray 32)).alloc (.cells (scells 0 0 0 0 0) 42)) (w.heap.size + 1) 42 (scells 0 0 0 0 0) := by
    have := At.new (w.alloc (.cells (Ks .u8 256 z).toArray 32)) 42 (scells 0 0 0 0 0)
    simp only [World.size_alloc] at this
    exact this
  have hP : At (((w.alloc (.cells (Ks .u8 256 z).toArray 32)).alloc (.cells (scells 0 0 0 0 0) 42)).alloc (.cells (Ks .u8 256 (fun _ => 0)).toArray 87)) (w.heap.size + 1 + 1) 87 (Ks .u8 256 (fun _ => 0)).toArray := by
    have := At.new ((w.alloc (.cells (Ks .u8 256 z).toArray 32)).alloc (.cells (scells 0 0 0 0 0) 42)) 87 (Ks .u8 256 (fun _ => 0)).toArray
    simp only [World.size_alloc] at this
    exact this
  have hL : Hid (Below w.heap.size w (((w.alloc (.cells (Ks .u8 256 z).toArray 32)).alloc (.cells (scells 0 0 0 0 0) 42)).alloc (.cells (Ks .u8 256 (fun _ => 0)).toArray 87))) := (((Below.refl _ _).alloc (Nat.le_refl _) _).alloc (by simp) _).alloc (by simp; omega) _
  have hTW := Lib.hid (((hT.alloc (.cells (Ks .u8 256 z).toArray 32)).alloc (.cells (scells 0 0 0 0 0) 42)).alloc (.cells (Ks .u8 256 (fun _ => 0)).toArray 87))
  have hTl := hT.lt
  have hR' := Lib.hid (hR.alloc (.cells (Ks .u8 256 (fun _ => 0)).toArray 87))
  clear hT hR
  go_enter Tryd.func15, Tryd.ntmps15
  go_wp2_with (first | (refine wp_loadBlkG rfl (.tmp 1) rfl w.heap.size z rfl hB ?_) | (refine wp_build1 rfl 87 0 (.tmp 6) rfl (bval z) _ rfl (hbd _) ?_) | (refine wp_storeAt rfl 87 (.tmp 4) (.tmp 7) rfl (w.heap.size + 1 + 1) (Ks .u8 256 z).toArray (Ks .u8 256 (fun _ => 0)).toArray rfl rfl hP (info_page' z) (by rw [Ks_size, Ks_size]) (Ks_one _ _ _) ?_))
  intro w1 hP1 ho1
  have st0 : Hid (RS w (w.heap.size + 1 + 1) z w1) := ⟨hR'.out.only ho1 (by omega), hP1.blk, hTW.out.only ho1 (by omega), hL.out.trans (ho1.below (by omega))⟩
  clear hB hP hP1 ho1 hTW hL hR' hbd
  obtain ⟨g, hg⟩ : ∃ g, w.heap.size + 1 + 1 = g := ⟨_, rfl⟩
  rw [hg] at st0 ⊢
  have hgl : w.heap.size + 2 ≤ g := by omega
  clear hg
  go_wp2_with fail
  -- printed from here on
  refine (pageGet4_any g z hzb 0 0 rfl (by omega) _ st0.out.p).mono ?_
  rintro e wx ⟨rfl, rfl⟩
  obtain ⟨c1, hc1⟩ : ∃ c, (g32 z 0 == 827216465) = c := ⟨_, rfl⟩
  have hn1 : (g32 z 0 != 827216465) = !c1 := by rw [← hc1]; rfl
  cases c1 with
  | false =>
    have HE : Hid (readE z = 60) := by show _ = _; unfold readE readA; rw [hc1]; rfl
    have hr := st0.out.r
    go_wp2_with (first | (refine wp_storeAt rfl 42 (.tmp 2) (.tmp 18) rfl (w.heap.size + 1) (scells 0 0 0 0 0) (scells 0 0 0 0 0) rfl rfl hr info_super rfl (all_s _ _ _ _ _) ?_))
    intro w9 hR9 ho9
    go_wp2_with fail
    exact bodyPost_ret (results_sup2 rfl _ _ (w.heap.size + 1) _ _ _ _ _ rfl hR9) rfl ⟨by rw [readV_no (by rw [HE.out]; decide), HE.out]; rfl, st0.out.bel.trans (ho9.below (by omega))⟩
  | true =>
  have HC1 := Lib.hid hc1
  clear hc1
  go_wp2_with fail
  clear hn1
  refine (pageGet_any g z hzb 2 4 rfl (by omega) _ st0.out.p).mono ?_
  rintro e wx ⟨rfl, rfl⟩
  obtain ⟨c2, hc2⟩ : ∃ c, (hd z 2 == 1) = c := ⟨_, rfl⟩
  have hn2 : (hd z 2 != 1) = !c2 := by rw [← hc2]; rfl
  cases c2 with
  | false =>
    have HE : Hid (readE z = 60) := by show _ = _; unfold readE readA; rw [HC1.out, hc2]; rfl
    have hr := st0.out.r
    go_wp2_with (first | (refine wp_storeAt rfl 42 (.tmp 2) (.tmp 18) rfl (w.heap.size + 1) (scells 0 0 0 0 0) (scells 0 0 0 0 0) rfl rfl hr info_super rfl (all_s _ _ _ _ _) ?_))
    intro w9 hR9 ho9
    go_wp2_with fail
    exact bodyPost_ret (results_sup2 rfl _ _ (w.heap.size + 1) _ _ _ _ _ rfl hR9) rfl ⟨by rw [readV_no (by rw [HE.out]; decide), HE.out]; rfl, st0.out.bel.trans (ho9.below (by omega))⟩
  | true =>
  have HC2 := Lib.hid hc2
  clear hc2
  go_wp2_with fail
  clear hn2
  refine (pageGet_any g z hzb 3 6 rfl (by omega) _ st0.out.p).mono ?_
  rintro e wx ⟨rfl, rfl⟩
  obtain ⟨c3, hc3⟩ : ∃ c, (hd z 3 == 256) = c := ⟨_, rfl⟩
  have hn3 : (hd z 3 != 256) = !c3 := by rw [← hc3]; rfl
  cases c3 with
  | false =>
    have HE : Hid (readE z = 60) := by show _ = _; unfold readE readA; rw [HC1.out, HC2.out, hc3]; rfl
    have hr := st0.out.r
    go_wp2_with (first | (refine wp_storeAt rfl 42 (.tmp 2) (.tmp 18) rfl (w.heap.size + 1) (scells 0 0 0 0 0) (scells 0 0 0 0 0) rfl rfl hr info_super rfl (all_s _ _ _ _ _) ?_))
    intro w9 hR9 ho9
    go_wp2_with fail
    exact bodyPost_ret (results_sup2 rfl _ _ (w.heap.size + 1) _ _ _ _ _ rfl hR9) rfl ⟨by rw [readV_no (by rw [HE.out]; decide), HE.out]; rfl, st0.out.bel.trans (ho9.below (by omega))⟩
  | true =>
  have HC3 := Lib.hid hc3
  clear hc3
  go_wp2_with fail
  clear hn3
  refine (pageSealed_any g z hzb _ st0.out.p st0.out.t).mono ?_
  rintro e w2 ⟨rfl, hb2⟩
  have st2 := Lib.hid (st0.out.below hb2)
  clear st0 hb2
  cases hc4 : sumB z with
  | false =>
    have HE : Hid (readE z = 60) := by show _ = _; unfold readE readA; rw [HC1.out, HC2.out, HC3.out, hc4]; rfl
    have hr := st2.out.r
    go_wp2_with (first | (refine wp_storeAt rfl 42 (.tmp 2) (.tmp 25) rfl (w.heap.size + 1) (scells 0 0 0 0 0) (scells 0 0 0 0 0) rfl rfl hr info_super rfl (all_s _ _ _ _ _) ?_))
    intro w9 hR9 ho9
    go_wp2_with fail
    exact bodyPost_ret (results_sup2 rfl _ _ (w.heap.size + 1) _ _ _ _ _ rfl hR9) rfl ⟨by rw [readV_no (by rw [HE.out]; decide), HE.out]; rfl, st2.out.bel.trans (ho9.below (by omega))⟩
  | true =>
  have HC4 := Lib.hid hc4
  clear hc4
  go_wp2_with fail
  refine (pageNoughts_any g z 20 252 20 252 rfl rfl (by omega) (by omega) (by omega) _ st2.out.p).mono ?_
  rintro e wx ⟨rfl, rfl⟩
  rw [show 252 - 20 = 232 from rfl]
  cases hc5 : allZ (fun i => z (20 + i)) 232 with
  | false =>
    have HE : Hid (readE z = 60) := by show _ = _; unfold readE readA; rw [HC1.out, HC2.out, HC3.out, HC4.out, hc5]; rfl
    have hr := st2.out.r
    go_wp2_with (first | (refine wp_storeAt rfl 42 (.tmp 2) (.tmp 25) rfl (w.heap.size + 1) (scells 0 0 0 0 0) (scells 0 0 0 0 0) rfl rfl hr info_super rfl (all_s _ _ _ _ _) ?_))
    intro w9 hR9 ho9
    go_wp2_with fail
    exact bodyPost_ret (results_sup2 rfl _ _ (w.heap.size + 1) _ _ _ _ _ rfl hR9) rfl ⟨by rw [readV_no (by rw [HE.out]; decide), HE.out]; rfl, st2.out.bel.trans (ho9.below (by omega))⟩
  | true =>
  have HRA : Hid (readA z = true) := by show _ = _; unfold readA; rw [HC1.out, HC2.out, HC3.out, HC4.out, hc5]; rfl
  clear hc5 HC1 HC2 HC3 HC4
  go_wp2_with fail
  refine (getGeo_any g z hzb _ st2.out.p).mono ?_
  rintro e w3 ⟨rfl, hb3⟩
  have st3 := Lib.hid (st2.out.below hb3)
  clear st2 hb3
  go_wp2_with fail
  refine (pageGet4_any g z hzb 16 16 rfl (by omega) _ st3.out.p).mono ?_
  rintro e wx ⟨rfl, rfl⟩
  have hbs := fun W => build_super (hd z 4) (hd z 5) (hd z 6) (hd z 7) (g32 z 16) W
  have ho := g32_bd hzb 16
  have HDEF : Hid (readE z = if mayG (hd z 4) (hd z 5) (hd z 6) (hd z 7) then (if g32 z 16 ≤ nIn (hd z 4) (hd z 5) (hd z 6) (hd z 7) then 0 else 60) else 50) := by show _ = _; unfold readE; rw [HRA.out]; rfl
  have HDV : Hid (readE z = 0 → readV z = sval (hd z 4) (hd z 5) (hd z 6) (hd z 7) (g32 z 16)) := fun h => by unfold readV; rw [if_pos h]
  generalize hd z 4 = G at *
  generalize hd z 5 = S at *
  generalize hd z 6 = I at *
  generalize hd z 7 = J at *
  generalize g32 z 16 = O at *
  have hS4 := At.new w3 42 (scells G S I J O)
  have st4 := Lib.hid (st3.out.below ((Below.refl _ _).alloc (Nat.le_refl _) (.cells (scells G S I J O) 42)))
  have hgeo := hS4.geo
  have hgl3 : w.heap.size + 2 ≤ w3.heap.size := by have := st3.out.r.lt; omega
  clear st3
  go_wp2_with (first | (refine wp_loadRange rfl 23 _ rfl w3.heap.size 0 (gcells G S I J).toList _ rfl hgeo Tryd.underlying23 rfl (by kernel_rfl) ?_))
  clear hgeo hbs
  refine (geoMay_any G S I J _).mono ?_
  rintro e w5 ⟨rfl, hb5⟩
  have st5 := Lib.hid (st4.out.below hb5)
  have hS5 := hS4.below hb5 hS4.lt
  clear st4 hS4 hb5
  cases hm : mayG G S I J with
  | false =>
    have HE : Hid (readE z = 50) := by show _ = _; rw [HDEF.out, hm]; rfl
    have hr := st5.out.r
    go_wp2_with (first | (refine wp_storeAt rfl 42 (.tmp 2) (.tmp 34) rfl (w.heap.size + 1) (scells 0 0 0 0 0) (scells 0 0 0 0 0) rfl rfl hr info_super rfl (all_s _ _ _ _ _) ?_))
    intro w9 hR9 ho9
    go_wp2_with fail
    exact bodyPost_ret (results_sup2 rfl _ _ (w.heap.size + 1) _ _ _ _ _ rfl hR9) rfl ⟨by rw [readV_no (by rw [HE.out]; decide), HE.out]; rfl, st5.out.bel.trans (ho9.below (by omega))⟩
  | true =>
  have HM := Lib.hid hm
  clear hm
  go_wp2_with (first | (refine wp_loadAtG rfl 42 _ rfl _ _ _ rfl hS5 Tryd.underlying42 rfl (by kernel_rfl) ?_))
  refine (orphaned_any G S I J O ho _).mono ?_
  rintro e w6 ⟨rfl, hb6⟩
  have st6 := Lib.hid (st5.out.below hb6)
  have hS6 := hS5.below hb6 hS5.lt
  clear st5 hS5 hb6
  cases hor : decide (O ≤ nIn G S I J) with
  | false =>
    have HE : Hid (readE z = 60) := by show _ = _; rw [HDEF.out, HM.out, if_pos rfl, if_neg (by simpa using hor)]
    have hr := st6.out.r
    go_wp2_with (first | (refine wp_storeAt rfl 42 (.tmp 2) (.tmp 38) rfl (w.heap.size + 1) (scells 0 0 0 0 0) (scells 0 0 0 0 0) rfl rfl hr info_super rfl (all_s _ _ _ _ _) ?_))
    intro w9 hR9 ho9
    go_wp2_with fail
    exact bodyPost_ret (results_sup2 rfl _ _ (w.heap.size + 1) _ _ _ _ _ rfl hR9) rfl ⟨by rw [readV_no (by rw [HE.out]; decide), HE.out]; rfl, st6.out.bel.trans (ho9.below (by omega))⟩
  | true =>
  have HE : Hid (readE z = 0) := by show _ = _; rw [HDEF.out, HM.out, if_pos rfl, if_pos (by simpa using hor)]
  clear hor
  have hr := st6.out.r
  go_wp2_with (first | (refine wp_loadAtG rfl 42 (.tmp 5) rfl _ _ _ rfl hS6 Tryd.underlying42 rfl (by kernel_rfl) ?_) | (refine wp_storeAt rfl 42 (.tmp 2) (.tmp 39) rfl (w.heap.size + 1) (scells G S I J O) (scells 0 0 0 0 0) rfl rfl hr info_super rfl (all_s _ _ _ _ _) ?_))
  intro w9 hR9 ho9
  go_wp2_with fail
  exact bodyPost_ret (results_sup2 rfl _ _ (w.heap.size + 1) _ _ _ _ _ rfl hR9) rfl ⟨by rw [HDV.out HE.out, HE.out]; rfl, st6.out.bel.trans (ho9.below (by omega))⟩
end Go.Proofs.YtopakpmepioomaaDoor
