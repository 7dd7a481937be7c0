/- Texts of this claim, merged by a program (a claim may have 60 files): Sc5. -/
import Derived.Test.YtnbmmhoofilmfaaDoorK33
/- scan.Find. Printed by gen_sc5.py out of XSc5.in. -/
namespace Go.Proofs.YtnbmmhoofilmfaaDoor
open Go.RowKit
set_option linter.unusedVariables false
attribute [local go_sem] Oper.semAt_some

set_option maxRecDepth 100000 in
set_option maxHeartbeats 8000000 in
theorem find18_any (G S I J : Int) (la : Option Addr) (N cap : Nat) (L : Nat → Nat → Int) (hL : ∀ i, Byt (L i)) (hc : N ≤ cap) (hc9 : (cap : Int) ≤ 9223372036854775807) (w : World) (hT : Tab w) (hl : RRow w la 256 N (bkF L)) :
    Calls Tryd.prog 19 #[.slice la N cap, gval G S I J] w fun e w' => FdPost w G S I J N L e w' ∧ Below w.heap.size w w' := by
  refine (callsIn_wide (n := 5)).1 (callsIn_of_wp_marks Tryd.func19 rfl trivial ?_ rfl)
  refine wpIn_wide.2 ?_
  simp only [Tryd.ntmps19, List.size_toArray, List.length_cons, List.length_nil, Nat.reduceAdd, Nat.reduceSub, Array.replicate_succ, Array.replicate_zero, List.push_toArray, List.append_toArray, List.nil_append, List.cons_append]
  have hTl := hT.lt
  have hal := zero_head
  obtain ⟨W0, hW0⟩ : ∃ W0, W0 = ((((w.alloc (.cells (gcells G S I J) 23)).alloc (.cells #[.int .u32 0, .int .i64 0] 36)).alloc (.cells #[.slice none 0 0] 56)).alloc (.cells #[.int .u32 0] 34)).alloc (.cells #[.int .i64 0] 27) := ⟨_, rfl⟩
  have st0 : Hid (FdS w G S I J la N L 0 0 (.slice none 0 0) 0 0 W0) := by
    rw [hW0]
    refine ⟨((((At.new w _ _).alloc _).alloc _).alloc _).alloc _, ?_, ?_, ?_, ?_, ((((hl.alloc _).alloc _).alloc _).alloc _).alloc _, ((((hT.alloc _).alloc _).alloc _).alloc _).alloc _, (((((Below.refl _ _).alloc (Nat.le_refl _) _).alloc (by simp) _).alloc (by simp; omega) _).alloc (by simp; omega) _).alloc (by simp; omega) _⟩
    · have := ((At.new (w.alloc (.cells (gcells G S I J) 23)) 36 #[.int .u32 0, .int .i64 0]).alloc (.cells #[.slice none 0 0] 56)).alloc (.cells #[.int .u32 0] 34) |>.alloc (.cells #[.int .i64 0] 27)
      simp only [World.size_alloc] at this; exact this
    · have := ((At.new ((w.alloc (.cells (gcells G S I J) 23)).alloc (.cells #[.int .u32 0, .int .i64 0] 36)) 56 #[.slice none 0 0]).alloc (.cells #[.int .u32 0] 34)).alloc (.cells #[.int .i64 0] 27)
      simp only [World.size_alloc] at this; exact this
    · have := (At.new (((w.alloc (.cells (gcells G S I J) 23)).alloc (.cells #[.int .u32 0, .int .i64 0] 36)).alloc (.cells #[.slice none 0 0] 56)) 34 #[.int .u32 0]).alloc (.cells #[.int .i64 0] 27)
      simp only [World.size_alloc] at this; exact this
    · have := At.new ((((w.alloc (.cells (gcells G S I J) 23)).alloc (.cells #[.int .u32 0, .int .i64 0] 36)).alloc (.cells #[.slice none 0 0] 56)).alloc (.cells #[.int .u32 0] 34)) 27 #[.int .i64 0]
      simp only [World.size_alloc] at this; exact this
  have HW0 := Lib.hid hW0
  have hg0 := st0.out.g
  rw [hW0] at hg0
  have HBL := Lib.hid hL
  have hbh : ∀ W, (Instr.build 36 #[]).run Tryd.prog W = .ok (.agg #[.int .u32 0, .int .i64 0]) W := fun W => by kernel_rfl
  have HLB := Lib.hid (rrow_old hl (bkF_len _) (by omega))
  clear hL hT hl hW0
  go_wp2_with (first | (refine wp_loadAtG rfl 23 (.tmp 3) rfl _ _ _ rfl hg0 Tryd.underlying23 rfl (by kernel_rfl) ?_))
  rw [show ((((w.alloc (.cells #[.int .i64 G, .int .i64 S, .int .i64 I, .int .i64 J] 23)).alloc (.cells #[.int .u32 0, .int .i64 0] 36)).alloc (.cells #[.slice none 0 0] 56)).alloc (.cells #[.int .u32 0] 34)).alloc (.cells #[.int .i64 0] 27) = W0 from HW0.out.symm]
  clear HW0 hg0
  refine (geoMay_any G S I J W0).mono ?_
  rintro e w1 ⟨rfl, hb1⟩
  have ST1 := Lib.hid (st0.out.below hb1)
  clear st0 hb1
  cases hmay : mayG G S I J with
  | false =>
    have hh_ := ST1.out.h
    have HE_ : Hid (fdE G S I J N L = 50) := (by show _ = _; unfold fdE; rw [if_pos hmay])
    go_wp2_with (first | (refine wp_storeAt rfl 36 (.tmp 4) (.tmp 14) rfl (w.heap.size + 1) #[.int .u32 0, .int .i64 0] _ rfl rfl hh_ (info_head 0 0) rfl (one_head _ _) ?_))
    intro wx hHx hox
    have stx := ST1.out.head hTl HLB.out hHx hox
    have hd5 := stx.l.cell (i := 0) rfl
    have hd6 := stx.n.cell (i := 0) rfl
    have hd7 := stx.e.cell (i := 0) rfl
    have f5 : wx.frozen? ⟨w.heap.size + 1 + 1, 0, none⟩ = false := soft_of_heap stx.l 0
    have f6 : wx.frozen? ⟨w.heap.size + 1 + 1 + 1, 0, none⟩ = false := soft_of_heap stx.n 0
    have f7 : wx.frozen? ⟨w.heap.size + 1 + 1 + 1 + 1, 0, none⟩ = false := soft_of_heap stx.e 0
    have POST : Hid (∀ W', FdPost w G S I J N L (.returned (.tuple #[.agg #[.int .u32 0, .int .i64 0], .slice none 0 0, .int .u32 0, .int .i64 50])) W') := fun W' => .inl ⟨by rw [HE_.out]; decide, by rw [HE_.out]⟩
    have FIN := Lib.hid (stx.fin (.slice none 0 0) 0 50)
    clear hHx hox stx hh_
    go_wp2_with fail
    exact bodyPostM_early (results_fd rfl _ _ _ _ _ _ _ _ _ _ _ rfl rfl rfl rfl FIN.out.1 FIN.out.2.1 FIN.out.2.2.1 FIN.out.2.2.2.1) ⟨POST.out _, FIN.out.2.2.2.2⟩
  | true =>
  have HMAY := Lib.hid hmay
  clear hmay
  have hg1 := ST1.out.g
  go_wp2_with (first | (refine wp_loadAtG rfl 23 (.tmp 3) rfl _ _ _ rfl hg1 Tryd.underlying23 rfl (by kernel_rfl) ?_))
  refine (geoBlocks_any G S I J w1).mono ?_
  rintro e w2 ⟨rfl, hb2⟩
  have ST2 := Lib.hid (ST1.out.below hb2)
  clear ST1 hb2 hg1
  by_cases hN : (N : Int) = nBl G S I J
  rotate_left
  · have hne : ((N : Int) != nBl G S I J) = true := by rw [bne_iff_ne]; exact hN
    have HNN := Lib.hid hN
    clear hN
    have hh_ := ST2.out.h
    have HE_ : Hid (fdE G S I J N L = 2) := (by show _ = _; unfold fdE; rw [if_neg (by rw [HMAY.out]; decide), if_pos HNN.out])
    go_wp2_with (first | (refine wp_storeAt rfl 36 (.tmp 4) (.tmp 20) rfl (w.heap.size + 1) #[.int .u32 0, .int .i64 0] _ rfl rfl hh_ (info_head 0 0) rfl (one_head _ _) ?_))
    intro wx hHx hox
    have stx := ST2.out.head hTl HLB.out hHx hox
    have hd5 := stx.l.cell (i := 0) rfl
    have hd6 := stx.n.cell (i := 0) rfl
    have hd7 := stx.e.cell (i := 0) rfl
    have f5 : wx.frozen? ⟨w.heap.size + 1 + 1, 0, none⟩ = false := soft_of_heap stx.l 0
    have f6 : wx.frozen? ⟨w.heap.size + 1 + 1 + 1, 0, none⟩ = false := soft_of_heap stx.n 0
    have f7 : wx.frozen? ⟨w.heap.size + 1 + 1 + 1 + 1, 0, none⟩ = false := soft_of_heap stx.e 0
    have POST : Hid (∀ W', FdPost w G S I J N L (.returned (.tuple #[.agg #[.int .u32 0, .int .i64 0], .slice none 0 0, .int .u32 0, .int .i64 2])) W') := fun W' => .inl ⟨by rw [HE_.out]; decide, by rw [HE_.out]⟩
    have FIN := Lib.hid (stx.fin (.slice none 0 0) 0 2)
    clear hHx hox stx hh_
    go_wp2_with fail
    exact bodyPostM_early (results_fd rfl _ _ _ _ _ _ _ _ _ _ _ rfl rfl rfl rfl FIN.out.1 FIN.out.2.1 FIN.out.2.2.1 FIN.out.2.2.2.1) ⟨POST.out _, FIN.out.2.2.2.2⟩
  rw [← hN]
  have HNN := Lib.hid hN
  have hN3 : 3 ≤ N := by
    obtain ⟨q1, q2, q3, q4, q5, q6, q7, q8, q9, q10, q11⟩ := (mayG_iff G S I J).1 HMAY.out
    have h1 : nBl G S I J = 2 + J + G * S := by unfold nBl; rw [HMAY.out, if_pos rfl]
    have h2 : 0 ≤ G * S := Int.mul_nonneg (by omega) (by omega)
    omega
  clear hN
  obtain ⟨b, off, rfl⟩ : ∃ b off, la = some ⟨b, off, none⟩ := by
    rcases ST2.out.r with h | ⟨b, off, h, _⟩
    · omega
    · exact ⟨b, off, h⟩
  have hrg : w2.rangeAt b (off + 2 * 256) (Ks .u8 256 (L 2)) := by
    rcases ST2.out.r with h | ⟨b', off', h, hs⟩
    · omega
    · injection h with h
      injection h with e1 e2
      subst e1 e2
      exact RSeg.range hs 2 (by omega)
  have hi2 : (2 : Int) < (N : Int) := by omega
  go_wp2_with (first | (refine wp_loadMid rfl 32 (.tmp 23) rfl b (off + 2 * 256) (Ks .u8 256 (L 2)) _ rfl hrg Tryd.underlying32 rfl (by rw [Ks_length]; exact info_block) ?_))
  refine (readHead_any (L 2) (HBL.out 2) w2).mono ?_
  rintro e w3 ⟨rfl, hb3⟩
  have hP8 := At.new w3 36 #[.int .u32 0, .int .i64 0]
  have hb2 : Below w2.heap.size w2 (w3.alloc (.cells #[.int .u32 0, .int .i64 0] 36)) := hb3.alloc hb3.size _
  have hw3 := hb3.size
  clear hrg hb3
  go_wp2_with (first | (refine wp_storeAt rfl 36 (.tmp 8) (.tmp 26) rfl w3.heap.size #[.int .u32 (hdS (L 2)), .int .i64 (hdT (L 2))] #[.int .u32 0, .int .i64 0] rfl rfl hP8 (info_head _ _) rfl (one_head _ _) ?_))
  intro w4 hP4 ho4
  obtain ⟨p8, hp8⟩ : ∃ p8, p8 = w3.heap.size := ⟨_, rfl⟩
  rw [← hp8] at hP4 ho4 hP8 ⊢
  have hp8w : w.heap.size + 1 + 1 + 1 + 1 < p8 := by have := ST2.out.e.lt; omega
  have ST4 := Lib.hid (ST2.out.below (hb2.trans (ho4.below (by omega))))
  have hd7 := ST4.out.e.cell (i := 0) (v := .int .i64 0) rfl
  have f7 : w4.frozen? ⟨w.heap.size + 1 + 1 + 1 + 1, 0, none⟩ = false := soft_of_heap ST4.out.e 0
  clear hP8 hb2 ho4 hp8 hw3
  cases hrd : headRd (L 2) with
  | false =>
    have hE0 : errOf false 90 = 90 := rfl
    rw [hE0]
    have STE := Lib.hid (ST4.out.setE hTl HLB.out 90)
    have HRD := Lib.hid hrd
    clear hrd hE0 hP4 ST4 ST2
    have hh_ := STE.out.h
    have HE_ : Hid (fdE G S I J N L = 90) := (by show _ = _; unfold fdE; rw [if_neg (by rw [HMAY.out]; decide), if_neg (fun h => h HNN.out), if_pos (.inl HRD.out)])
    go_wp2_with (first | (refine wp_storeAt rfl 36 (.tmp 4) (.tmp 42) rfl (w.heap.size + 1) #[.int .u32 0, .int .i64 0] _ rfl rfl hh_ (info_head 0 0) rfl (one_head _ _) ?_))
    intro wx hHx hox
    have stx := STE.out.head hTl HLB.out hHx hox
    have hd5 := stx.l.cell (i := 0) rfl
    have hd6 := stx.n.cell (i := 0) rfl
    have hd7 := stx.e.cell (i := 0) rfl
    have f5 : wx.frozen? ⟨w.heap.size + 1 + 1, 0, none⟩ = false := soft_of_heap stx.l 0
    have f6 : wx.frozen? ⟨w.heap.size + 1 + 1 + 1, 0, none⟩ = false := soft_of_heap stx.n 0
    have f7 : wx.frozen? ⟨w.heap.size + 1 + 1 + 1 + 1, 0, none⟩ = false := soft_of_heap stx.e 0
    have POST : Hid (∀ W', FdPost w G S I J N L (.returned (.tuple #[.agg #[.int .u32 0, .int .i64 0], .slice none 0 0, .int .u32 0, .int .i64 90])) W') := fun W' => .inl ⟨by rw [HE_.out]; decide, by rw [HE_.out]⟩
    have FIN := Lib.hid (stx.fin (.slice none 0 0) 0 90)
    clear hHx hox stx hh_
    go_wp2_with fail
    exact bodyPostM_early (results_fd rfl _ _ _ _ _ _ _ _ _ _ _ rfl rfl rfl rfl FIN.out.1 FIN.out.2.1 FIN.out.2.2.1 FIN.out.2.2.2.1) ⟨POST.out _, FIN.out.2.2.2.2⟩
  | true =>
  have hE0 : errOf true 90 = 0 := rfl
  rw [hE0]
  obtain ⟨hs, hhs⟩ : ∃ hs, hs = hdS (L 2) := ⟨_, rfl⟩
  obtain ⟨ht, hht⟩ : ∃ ht, ht = hdT (L 2) := ⟨_, rfl⟩
  have hsb : 1 ≤ hs ∧ hs ≤ 2147483648 := by rw [hhs]; exact hdS_bd hrd
  have htb : 0 ≤ ht ∧ ht < 4294967296 := by rw [hht]; exact hdT_bd (HBL.out 2)
  have HHS := Lib.hid hhs
  have HHT := Lib.hid hht
  have HRD := Lib.hid hrd
  have STE := Lib.hid (ST4.out.setE hTl HLB.out 0)
  have HP5 : Hid (At (w4.setCell ⟨w.heap.size + 1 + 1 + 1 + 1, 0, none⟩ (.int .i64 0)) p8 36 #[.int .u32 hs, .int .i64 ht]) := by
    rw [hhs, hht]; exact hP4.only (Only.setCell w4 ⟨w.heap.size + 1 + 1 + 1 + 1, 0, none⟩ (.int .i64 0)) (by show p8 ≠ w.heap.size + 1 + 1 + 1 + 1; omega)
  rw [← hhs, ← hht]
  obtain ⟨hs1, hs9⟩ := hsb
  obtain ⟨ht0, ht9⟩ := htb
  have htn : ¬ ht < 0 := by omega
  clear hhs hht hrd hE0 hP4 ST4 ST2
  have hp81 := HP5.out.cell (i := 1) (v := .int .i64 ht) rfl
  have hg3 := STE.out.g.cell (i := 3) (v := .int .i64 J) rfl
  by_cases hJ : J ≤ ht
  · have HJ := Lib.hid hJ
    have hh_ := STE.out.h
    have HE_ : Hid (fdE G S I J N L = 90) := (by show _ = _; unfold fdE; rw [if_neg (by rw [HMAY.out]; decide), if_neg (fun h => h HNN.out), if_pos (.inr (by rw [← HHT.out]; exact HJ.out))])
    go_wp2_with (first | (refine wp_storeAt rfl 36 (.tmp 4) (.tmp 42) rfl (w.heap.size + 1) #[.int .u32 0, .int .i64 0] _ rfl rfl hh_ (info_head 0 0) rfl (one_head _ _) ?_))
    intro wx hHx hox
    have stx := STE.out.head hTl HLB.out hHx hox
    have hd5 := stx.l.cell (i := 0) rfl
    have hd6 := stx.n.cell (i := 0) rfl
    have hd7 := stx.e.cell (i := 0) rfl
    have f5 : wx.frozen? ⟨w.heap.size + 1 + 1, 0, none⟩ = false := soft_of_heap stx.l 0
    have f6 : wx.frozen? ⟨w.heap.size + 1 + 1 + 1, 0, none⟩ = false := soft_of_heap stx.n 0
    have f7 : wx.frozen? ⟨w.heap.size + 1 + 1 + 1 + 1, 0, none⟩ = false := soft_of_heap stx.e 0
    have POST : Hid (∀ W', FdPost w G S I J N L (.returned (.tuple #[.agg #[.int .u32 0, .int .i64 0], .slice none 0 0, .int .u32 0, .int .i64 90])) W') := fun W' => .inl ⟨by rw [HE_.out]; decide, by rw [HE_.out]⟩
    have FIN := Lib.hid (stx.fin (.slice none 0 0) 0 90)
    clear hHx hox stx hh_
    go_wp2_with fail
    exact bodyPostM_early (results_fd rfl _ _ _ _ _ _ _ _ _ _ _ rfl rfl rfl rfl FIN.out.1 FIN.out.2.1 FIN.out.2.2.1 FIN.out.2.2.2.1) ⟨POST.out _, FIN.out.2.2.2.2⟩
  have hJ' : ¬ J ≤ ht := hJ
  by_cases hpos : 0 < ht
  rotate_left
  · obtain ⟨l, hl⟩ : ∃ l, l = fdL J (L) := ⟨_, rfl⟩
    have hl0 : l = [] := by rw [hl]; unfold fdL; rw [if_neg (by rw [← HHT.out]; exact hpos)]
    have HFE : Hid (fdE G S I J N L = if 2147483648 < hs + (0 : Int) + 1 then 90 else 0) := by
      show _ = _
      unfold fdE
      rw [if_neg (by rw [HMAY.out]; decide), if_neg (fun h => h HNN.out), if_neg (by rw [HRD.out, ← HHT.out]; rintro (h | h); cases h; exact hJ' h), ← hl, hl0, if_neg (by rintro h; cases h), ← HHS.out]; rfl
    have HTT : Hid (FdT w G S I J (some ⟨b, off, none⟩) N L hs ht p8 none 0 0 [] (w4.setCell ⟨w.heap.size + 1 + 1 + 1 + 1, 0, none⟩ (.int .i64 0))) := ⟨STE.out, HP5.out, TrM.nil _ _⟩
    have HLL : Hid (([] : List Tr) = fdL J L ∧ 0 = ([] : List Tr).length) := by rw [← hl, hl0]; exact ⟨rfl, rfl⟩
    clear hl0 hl STE HP5 HNN HMAY HRD
    have hc0 := HTT.out.p.cell (i := 0) (v := .int .u32 hs) rfl
    have hl5 := HTT.out.f.l.cell (i := 0) (v := .slice none 0 0) rfl
    by_cases hbig : 2147483648 < hs + (0 : Int) + 1
    · have STT := Lib.hid HTT.out.f
      have hh_ := STT.out.h
      have HE_ : Hid (fdE G S I J N L = 90) := by show _ = _; rw [HFE.out, if_pos hbig]
      go_wp2_with (first | (refine wp_storeAt rfl 36 (.tmp 4) (.tmp 74) rfl (w.heap.size + 1) #[.int .u32 0, .int .i64 0] _ rfl rfl hh_ (info_head 0 0) rfl (one_head _ _) ?_))
      intro wx hHx hox
      have stx := STT.out.head hTl HLB.out hHx hox
      have hd5 := stx.l.cell (i := 0) rfl
      have hd6 := stx.n.cell (i := 0) rfl
      have hd7 := stx.e.cell (i := 0) rfl
      have f5 : wx.frozen? ⟨w.heap.size + 1 + 1, 0, none⟩ = false := soft_of_heap stx.l 0
      have f6 : wx.frozen? ⟨w.heap.size + 1 + 1 + 1, 0, none⟩ = false := soft_of_heap stx.n 0
      have f7 : wx.frozen? ⟨w.heap.size + 1 + 1 + 1 + 1, 0, none⟩ = false := soft_of_heap stx.e 0
      have POST : Hid (∀ W', FdPost w G S I J N L (.returned (.tuple #[.agg #[.int .u32 0, .int .i64 0], .slice none 0 0, .int .u32 0, .int .i64 90])) W') := fun W' => .inl ⟨by rw [HE_.out]; decide, by rw [HE_.out]⟩
      have FIN := Lib.hid (stx.fin (.slice none 0 0) 0 90)
      clear hHx hox stx hh_
      go_wp2_with fail
      exact bodyPostM_early (results_fd rfl _ _ _ _ _ _ _ _ _ _ _ rfl rfl rfl rfl FIN.out.1 FIN.out.2.1 FIN.out.2.2.1 FIN.out.2.2.2.1) ⟨POST.out _, FIN.out.2.2.2.2⟩
    have HE0 : Hid (fdE G S I J N L = 0) := by show _ = _; rw [HFE.out, if_neg hbig]
    obtain ⟨X, hX⟩ : ∃ X, X = hs + (0 : Int) + 1 := ⟨_, rfl⟩
    have HX := Lib.hid hX
    have hX0 : 0 ≤ X ∧ X ≤ 2147483648 := by omega
    have hbig' : hs + (0 : Int) + 1 ≤ 2147483648 := by omega
    have HXB := Lib.hid hX0
    clear hbig hX hX0
    go_wp2_with fail
    obtain ⟨hX0, hX9⟩ := HXB.out
    have HT2 := Lib.hid (HTT.out.below (Below.refl _ _).drew)
    have HDD : Hid (w.heap.size + 1 + 1 + 1 + 1 < w.heap.size + 1 + 1 + 1 + 1 + 1) := by show _ < _; omega
    have HP8W := Lib.hid hp8w
    have HXW : Hid (hs + 1 = X) := by show _ = _; rw [HX.out]; simp
    have HCUT : Hid (∀ W, (Instr.sliceAt 56 (.slice none 0 0) none (some (.int .i64 (0 : Int))) (some (.int .i64 (0 : Int)))).run Tryd.prog W = .ok (.slice none 0 0) W) := fun W => (run_sliceAt_slice W 56 _ _ _ _ (by kernel_rfl)).trans (run_takeT none 0 0 0 (0 : Int) rfl (by first | omega | exact HNC.out) W)
    have hcv : ∀ W, (convert 124 34 (.int .u64 X)).run Tryd.prog W = .ok (.int .u32 X) W := fun W => by
      have : IntKind.u32.wrap X = X := IntWalk.u32_in _ (by omega)
      simp [go_sem, this]
    have HCV := Lib.hid hcv
    clear hcv HTT hc0 hl5
    refine wp_region_invA (FdI w p8 hs ht none 0 0 [] X (w.heap.size + 1 + 1 + 1 + 1 + 1) _) (by kernel_rfl) (by kernel_rfl) (fun _ _ _ _ he h => h.congr he) ⟨rfl, rfl, fun _ _ => rfl, (fun i hi h => by cases h), HT2.out.p, HT2.out.f.h, HT2.out.f.l, HT2.out.f.n, HT2.out.f.e, HT2.out.m, (fun h => by cases h), rfl, HT2.out.f.bel⟩ ⟨?_, ?_, ?_, ?_, ?_, ?_, ?_, ?_, ?_, ?_, ?_, ?_, ?_, trivial⟩ ?_
    · intro f a' w' hl hu h
      exact Tb.wpOp_of rfl rfl (op_ldrow 36 (.tmp 8) rfl p8 #[.int .u32 hs, .int .i64 ht] _ (h.other 8 (by omega)) h.p Tryd.underlying36 rfl (info_head hs ht) (h.quiet 0 (by omega) _ rfl))
    · intro f a' w' hl hu h
      have h10 : f 10 = false := by
        cases e : f 10 with
        | false => rfl
        | true => have := h.w10 e; rw [this.1] at hl; cases hl
      have hc := h.fl.cell (i := 0) (v := .slice none 0 0) (by rw [h10]; rfl)
      exact Tb.wpOp_of rfl rfl (op_ldc 56 (.tmp 5) rfl (w.heap.size + 1 + 1) 0 _ (h.other 5 (by omega)) hc (by kernel_rfl) (h.quiet 1 (by omega) _ rfl))
    · intro f a' w' hl hu h
      have h10 : f 10 = false := by
        cases e : f 10 with
        | false => rfl
        | true => have := h.w10 e; rw [this.2.1] at hl; cases hl
      have hc := h.fl.cell (i := 0) (v := .slice none 0 0) (by rw [h10]; rfl)
      exact Tb.wpOp_of rfl rfl (op_ldc 56 (.tmp 5) rfl (w.heap.size + 1 + 1) 0 _ (h.other 5 (by omega)) hc (by kernel_rfl) (h.quiet 2 (by omega) _ rfl))
    · intro f a' w' hl hu h
      have k2 := op_up hu 2 (by kernel_rfl)
      exact Tb.wpOp_of rfl rfl (op_len (.tmp 77) 56 rfl 51 Tryd.underlying56 none 0 0 (h.vals 2 (by omega) k2) (h.quiet 3 (by omega) _ rfl))
    · intro f a' w' hl hu h
      have h10 : f 10 = false := by
        cases e : f 10 with
        | false => rfl
        | true => have := h.w10 e; rw [this.2.2] at hl; cases hl
      have hc := h.fl.cell (i := 0) (v := .slice none 0 0) (by rw [h10]; rfl)
      exact Tb.wpOp_of rfl rfl (op_ldc 56 (.tmp 5) rfl (w.heap.size + 1 + 1) 0 _ (h.other 5 (by omega)) hc (by kernel_rfl) (h.quiet 4 (by omega) _ rfl))
    · intro f a' w' hl hu h
      have k4 := op_up hu 4 (by kernel_rfl)
      exact Tb.wpOp_of rfl rfl (op_len (.tmp 79) 56 rfl 51 Tryd.underlying56 none 0 0 (h.vals 4 (by omega) k4) (h.quiet 5 (by omega) _ rfl))
    · intro f a' w' hl hu h
      have k1 := h.vals 1 (by omega) (op_up hu 1 (by kernel_rfl))
      have k3 := h.vals 3 (by omega) (op_up hu 3 (by kernel_rfl))
      have k5 := h.vals 5 (by omega) (op_up hu 5 (by kernel_rfl))
      have e1 : a'.eval (.tmp 76) = .slice none 0 0 := k1
      have e3 : a'.eval (.tmp 78) = .int .i64 (0 : Int) := k3
      have e5 : a'.eval (.tmp 80) = .int .i64 (0 : Int) := k5
      have hcu := HCUT.out w'
      refine Tb.wpOp_of rfl rfl (op_val (v := .slice none 0 0) (w' := w') ?_ (h.quiet 6 (by omega) _ rfl))
      unfold execOp
      simp [e1, e3, e5, hcu]
    · intro f a' w' hl hu h
      exact Tb.wpOp_of rfl rfl (op_move (.tmp 10) rfl (.int .u64 X) ((h.other 10 (by omega)).trans (congrArg (Value.int IntKind.u64) HXW.out)) (h.quiet 7 (by omega) _ rfl))
    · intro f a' w' hl hu h
      have k7 := h.vals 7 (by omega) (op_up hu 7 (by kernel_rfl))
      have e7 : a'.eval (.tmp 82) = .int .u64 X := k7
      have hcv := HCV.out w'
      refine Tb.wpOp_of rfl rfl (op_val (v := .int .u32 X) (w' := w') ?_ (h.quiet 8 (by omega) _ rfl))
      unfold execOp
      simp [e7, hcv]
    · intro f a' w' hl hu h
      have k0 := h.vals 0 (by omega) (op_up hu 0 (by kernel_rfl))
      have hh9 := h.h
      rw [show f 9 = false from hl, if_neg (by decide)] at hh9
      exact Tb.wpOp_of rfl rfl (op_strow 36 (.tmp 4) (.tmp 75) rfl (w.heap.size + 1) #[.int .u32 hs, .int .i64 ht] _ (h.other 4 (by omega)) k0 hh9 (info_head hs ht) rfl (one_head _ _) (fun W' q1 q2 => h.st9 HP8W.out HDD.out q1 q2))
    · intro f a' w' hl hu h
      have k6 := h.vals 6 (by omega) (op_up hu 6 (by kernel_rfl))
      exact Tb.wpOp_of rfl rfl (op_stc 56 (.tmp 5) (.tmp 81) rfl (w.heap.size + 1 + 1) _ (.slice none 0 0) _ (h.other 5 (by omega)) k6 h.fl (fun W q1 q2 => stc_trs _ _ _ _ _ W q1 q2) (h.st10 (op_up hu 1 (by kernel_rfl)) (op_up hu 2 (by kernel_rfl)) (op_up hu 4 (by kernel_rfl)) HP8W.out HDD.out))
    · intro f a' w' hl hu h
      have k8 := h.vals 8 (by omega) (op_up hu 8 (by kernel_rfl))
      exact Tb.wpOp_of rfl rfl (op_stc 34 (.tmp 6) (.tmp 83) rfl (w.heap.size + 1 + 1 + 1) _ (.int .u32 X) _ (h.other 6 (by omega)) k8 h.fn (fun W q1 q2 => stc_u32 _ _ _ W q1 q2) (h.st11 HP8W.out HDD.out))
    · intro f a' w' hl hu h
      exact Tb.wpOp_of rfl rfl (op_stc 27 (.tmp 7) (.const (.int .i64 0)) rfl (w.heap.size + 1 + 1 + 1 + 1) _ (.int .i64 0) _ (h.other 7 (by omega)) rfl h.e (fun W q1 q2 => stc_err _ _ _ W q1 q2) (h.st12 HP8W.out HDD.out))
    intro af wf h
    have o4 := h.other 4 (by omega)
    have o5 := h.other 5 (by omega)
    have o6 := h.other 6 (by omega)
    have o7 := h.other 7 (by omega)
    have hdf := h.defers
    have HF := Lib.hid h
    clear h HT2 HCUT HCV
    have hh := HF.out.h
    rw [if_pos rfl] at hh
    have hl' := HF.out.fl.cell (i := 0) (v := .slice none 0 0) rfl
    have hn' := HF.out.fn.cell (i := 0) (v := .int .u32 X) rfl
    have he' := HF.out.e.cell (i := 0) (v := .int .i64 0) rfl
    have hrw := HF.out.m.q HLL.out.2
    have POST : Hid (∀ W', TrQ W' none [] → FdPost w G S I J N L (.returned (.tuple #[.agg #[.int .u32 hs, .int .i64 ht], .slice none 0 0, .int .u32 X, .int .i64 0])) W') := fun W' hr => .inr ⟨HE0.out, none, 0, by rw [HX.out, HHS.out, HHT.out, ← HLL.out.1]; first | rfl | rw [← HLL.out.2], by rw [← HLL.out.1]; exact hr⟩
    obtain ⟨tm, df⟩ := af
    obtain rfl : df = [] := hdf
    have HH := Lib.hid hh
    have HRW := Lib.hid hrw
    have HBL2 := Lib.hid HF.out.bel
    have HC3 : Hid (wf.cell? ⟨w.heap.size + 1 + 1, 0, none⟩ = some (.slice none 0 0) ∧ wf.cell? ⟨w.heap.size + 1 + 1 + 1, 0, none⟩ = some (.int .u32 X) ∧ wf.cell? ⟨w.heap.size + 1 + 1 + 1 + 1, 0, none⟩ = some (.int .i64 0)) := ⟨hl', hn', he'⟩
    clear HF hh hl' hn' he' hrw
    go_wp2_with fail
    exact bodyPostM_early (results_fd rfl tm wf _ _ _ _ hs ht _ X 0 o4 o5 o6 o7 HH.out HC3.out.1 HC3.out.2.1 HC3.out.2.2) ⟨POST.out _ HRW.out, HBL2.out⟩
  obtain ⟨q1, q2, q3, q4, q5, q6, q7, q8, q9, q10, q11⟩ := (mayG_iff G S I J).1 HMAY.out
  have hnb : (N : Int) = 2 + J + G * S := by rw [HNN.out]; unfold nBl; rw [HMAY.out, if_pos rfl]
  have hGS : 0 ≤ G * S := Int.mul_nonneg (by omega) (by omega)
  obtain ⟨j, rfl⟩ : ∃ j : Nat, J = (j : Int) := ⟨J.toNat, by omega⟩
  obtain ⟨t, rfl⟩ : ∃ t : Nat, ht = (t : Int) := ⟨ht.toNat, by omega⟩
  obtain ⟨r, hr⟩ : ∃ r, r + 1 = j := ⟨j - 1, by omega⟩
  obtain ⟨R, hR⟩ : ∃ R, R = ringL L j t := ⟨_, rfl⟩
  obtain ⟨l, hl⟩ : ∃ l, l = fnd R r 0 hs := ⟨_, rfl⟩
  have hRb : ∀ i, Byt (R i) := fun i => by rw [hR]; exact HBL.out _
  have HRB := Lib.hid hRb
  have hbd := fnd_bound hRb (r - 0) 0 hs (by omega) rfl
  rw [← hl] at hbd
  have HLOK : Hid (∀ t ∈ l, t.Ok) := fun t ht => (hbd.2 t ht).1
  have hl255 : l.length ≤ 255 := by have := hbd.1; omega
  have HLD : Hid (l = fdL (j : Int) L) := by
    show _ = _
    unfold fdL
    rw [← HHT.out, if_pos hpos, ← HHS.out, hl, hR, Int.toNat_natCast, Int.toNat_natCast, show j - 1 = r by omega]
  have HL0 := Lib.hid hl
  have hts : 1 ≤ t ∧ t < j := by omega
  have HTS := Lib.hid hts
  have hN2 : 2 + j ≤ N := by omega
  have HJR : Hid (j - 1 = r ∧ 2 ≤ j ∧ j ≤ 256) := ⟨by omega, by omega, by omega⟩
  have HRR : Hid (R = ringL L j t) := hR
  have HT2 : Hid (FdT w G S I j (some ⟨b, off, none⟩) N L hs t p8 none 0 0 [] (w4.setCell ⟨w.heap.size + 1 + 1 + 1 + 1, 0, none⟩ (.int .i64 0))) := ⟨STE.out, HP5.out, TrM.nil _ _⟩
  have HFE0 : Hid (∀ bb, l.all (outTr G S I j) = bb → fdE G S I j N L = if bb = false then 90 else if 2147483648 < hs + (l.length : Int) + 1 then 90 else 0) := fun bb hbb => by
    unfold fdE
    rw [if_neg (by rw [HMAY.out]; decide), if_neg (fun h => h HNN.out), if_neg (by rw [HRD.out, ← HHT.out]; rintro (h | h); cases h; exact hJ' h), ← HLD.out, hbb, ← HHS.out]
  have HL255 := Lib.hid hl255
  have HN2 := Lib.hid hN2
  have hposn : 0 < t := by omega
  clear hl255 hN2 hJ
  clear q1 q2 q3 q4 q5 q6 q7 q8 q9 q10 q11 hnb hGS hl hR hRb hbd hts STE HP5 hr HNN HMAY HRD
  go_wp2_with fail
  refine Mv.wp_region_mc (FdR w G S I j (some ⟨b, off, none⟩) N L hs t p8 r R) ⟨0, undef⟩ (by kernel_rfl) (by kernel_rfl) (by kernel_rfl) ⟨HT2.out.below (Below.refl _ _).drew, (fun h => by cases h), (fun h => by cases h)⟩ ?_
  clear HT2 hp81 hg3
  intro hne
  have d81 : ∀ y : InW (fun W => ∃ s, FdR w G S I j (some ⟨b, off, none⟩) N L hs t p8 r R s W), y.W.cell? ⟨p8, 1, none⟩ = some (.int .i64 (t : Int)) := fun y => by obtain ⟨s, h⟩ := y.h; exact h.f.p.cell (i := 1) rfl
  have d80 : ∀ y : InW (fun W => ∃ s, FdR w G S I j (some ⟨b, off, none⟩) N L hs t p8 r R s W), y.W.cell? ⟨p8, 0, none⟩ = some (.int .u32 hs) := fun y => by obtain ⟨s, h⟩ := y.h; exact h.f.p.cell (i := 0) rfl
  (refine Mv.lin_take 4 (by kernel_rfl) ?_; simp only [List.take_succ_cons, List.take_zero, List.drop_succ_cons, List.drop_zero])
  first | go_big_quiet_skip | (go_big_quiet_want; go_big_quiet_op; go_big_quiet_on)
  refine q_load rfl 23 (.tmp 3) rfl _ _ rfl (gcells G S I j).toList _ (fun W h => by obtain ⟨_, h⟩ := h; exact h.f.f.g.range) Tryd.underlying23 rfl (by kernel_rfl) ?_
  refine wpQuiet_frame (by simp only [Act.put, List.setIfInBounds_toArray, List.set_cons_succ, List.set_cons_zero]; exact rfl) ?_
  first | go_big_quiet_skip | (go_big_quiet_want; go_big_quiet_op; go_big_quiet_on)
  first | go_big_quiet_skip | (go_big_quiet_want; go_big_quiet_op; go_big_quiet_on)
  refine wpQuiet_nil ?_
  refine Mv.lin_callE rfl rfl 57 #[.slice (some ⟨b, off, none⟩) N cap, gval G S I (j : Int), .int .i64 (t : Int)] (fun W => by kernel_rfl) (fun W hW => ?_)
  have hbw : b < W.heap.size := by have := HLB.out b off rfl (by omega); have := hW.f.f.bel.size; omega
  refine (turned_any b off N cap L G S I j t HJR.out.2.1 HJR.out.2.2 HN2.out hc hc9 HTS.out.1 HTS.out.2 W hbw hW.f.f.r).mono ?_
  rintro e w7 ⟨q, rfl, hq, hA7, hb7⟩
  rw [HJR.out.1] at hA7 ⊢
  have hWs := hW.f.f.e.lt
  refine ⟨_, ⟨1, .slice (some ⟨q, 0, none⟩) r r⟩, rfl, ⟨hW.f.below hb7, fun _ => ⟨q, rfl, by have := hW.f.f.bel.size; omega, by rw [HRR.out]; exact hA7⟩, (fun h => by cases h)⟩, ?_⟩
  have hqw : w.heap.size + 1 + 1 + 1 + 1 < q := by omega
  clear hW hb7 hA7 hbw hWs hq
  refine Mv.frame (by simp only [Act.put, List.setIfInBounds_toArray, List.set_cons_succ, List.set_cons_zero]; exact rfl) ?_
  (refine Mv.lin_take 2 (by kernel_rfl) ?_; simp only [List.take_succ_cons, List.take_zero, List.drop_succ_cons, List.drop_zero])
  first | go_big_quiet_skip | (go_big_quiet_want; go_big_quiet_op; go_big_quiet_on)
  first | go_big_quiet_skip | (go_big_quiet_want; go_big_quiet_op; go_big_quiet_on)
  refine wpQuiet_nil ?_
  refine Mv.lin_callE rfl rfl 56 #[.slice (some ⟨q, 0, none⟩) r r, .int .u32 hs] (fun W => by kernel_rfl) (fun W hW => ?_)
  obtain ⟨q', hqe, hqb, hA⟩ := hW.q1 rfl
  injection hqe with hqe _ _
  injection hqe with hqe
  injection hqe with hqe _ _
  subst hqe
  refine (found_any q r hs W).mono ?_
  rintro e w8 ⟨rfl, hw8⟩
  have hb8 : Below W.heap.size W w8 := by rw [← hw8]; exact ((Below.refl _ _).alloc (Nat.le_refl _) _).alloc (by simp) _
  have hBL : At w8 W.heap.size 24 #[.slice (some ⟨q, 0, none⟩) r r] := by rw [← hw8]; exact (At.new W _ _).alloc _
  have hBS : At w8 (W.heap.size + 1) 34 #[.int .u32 hs] := by
    rw [← hw8]
    have := At.new (W.alloc (.cells #[.slice (some ⟨q, 0, none⟩) r r] 24)) 34 #[.int .u32 hs]
    simp only [World.size_alloc] at this; exact this
  have hWs := hW.f.f.e.lt
  obtain ⟨bl, hbl⟩ : ∃ bl, bl = W.heap.size := ⟨_, rfl⟩
  obtain ⟨bs, hbs⟩ : ∃ bs, bs = W.heap.size + 1 := ⟨_, rfl⟩
  rw [← hbl] at hBL
  rw [← hbs] at hBS
  rw [← hbs, ← hbl]
  refine ⟨_, ⟨2, .slice (some ⟨q, 0, none⟩) bs bl⟩, rfl, ⟨hW.f.below hb8, (fun h => by cases h), fun _ => ⟨q, bs, bl, rfl, hqw, by omega, by omega, ⟨hBS, hBL, hA.below hb8, hW.f.f.ta.below hb8 (Nat.le_refl _)⟩⟩⟩, ?_⟩
  have hblw : w.heap.size + 1 + 1 + 1 + 1 < bl := by omega
  have hbsw : w.heap.size + 1 + 1 + 1 + 1 < bs := by omega
  clear hW hb8 hBL hBS hA hWs hbl hbs hw8 hqb
  refine Mv.frame (by simp only [Act.put, List.setIfInBounds_toArray, List.set_cons_succ, List.set_cons_zero]; exact rfl) ?_
  refine Mv.wpLin_nil ?_
  intro w9 h9
  obtain ⟨q2, bs2, bl2, hqe, _, _, _, hN9⟩ := h9.q2 rfl
  injection hqe with hqe e1 e2
  injection hqe with hqe
  injection hqe with hqe _ _
  subst hqe e1 e2
  have HT9 := Lib.hid h9.f
  have HN9 := Lib.hid hN9
  clear h9 hN9 hne d80 d81
  obtain ⟨B9, hB9⟩ : ∃ B9, B9 = w9.heap.size := ⟨_, rfl⟩
  have hB9l : bs < B9 ∧ bl < B9 ∧ q < B9 ∧ p8 < B9 := by rw [hB9]; exact ⟨HN9.out.s.lt, HN9.out.l.lt, HN9.out.a.lt, HT9.out.p.lt⟩
  obtain ⟨hB1, hB2, hB3, hB4⟩ := hB9l
  have HB9 := Lib.hid hB9
  have HR255 : Hid (r ≤ 255) := by have := HJR.out; show _ ≤ _; omega
  have HS19 : Hid (0 ≤ hs ∧ hs ≤ 2147483648) := ⟨by omega, hs9⟩
  clear hB9
  go_wp2_with fail
  apply wp_rangeV4 (gf := 100) (lb := #[.pointer (some ⟨bs, 0, none⟩), .pointer (some ⟨bl, 0, none⟩)]) rfl (enters_of Tryd.func100 (by kernel_rfl) rfl)
    (found_iter 4 (by decide) B9 q bs bl R HRB.out r HR255.out hs HS19.out hB1 hB2 hB3 l HL0.out.symm) rfl 51
    (fun k W => ∃ a c, Hid ((l.take k).all (outTr G S I j) = true) ∧ FdT w G S I j (some ⟨b, off, none⟩) N L hs t p8 a k c (l.take k) W)
    (fun c k W => c = .ret ∧ Hid (l.all (outTr G S I j) = false) ∧ FdS w G S I j (some ⟨b, off, none⟩) N L 0 0 (.slice none 0 0) 0 90 W)
    (fun k => Kept.ex fun a => Kept.ex fun c => (Kept.pure _ _).and (FdT.kept hTl _ HT9.out.f.bel.size))
    (fun c k => (Kept.pure _ _).and ((Kept.pure _ _).and (FdS.kept hTl _ HT9.out.f.bel.size)))
    (fun k => (fun W W' row h hg hr => ⟨Nat.le_trans h.1 hg.size, FnN.kept _ W W' row h.2 hg hr⟩))
    (fun k cs => TrV.kept _ k cs)
    ⟨none, 0, rfl, HT9.out⟩ ⟨by rw [HB9.out]; exact Nat.le_refl _, HN9.out⟩
  case assign =>
    intro lp k cs W K hk hv hK
    obtain ⟨t', ca, cc, ra, rc, hget, hcs, hC, hV⟩ := hv
    have hinf : (Tryd.prog.info? 51).map (·.size) = some cs.size := by rw [hcs]; exact info_trans _ _ _ _ _ _ _
    have hc1 : cs.all (·.oneCell') = true := by rw [hcs]; exact all_trans _ _ _ _ _ _ _
    have hs0 : (tcells 0 none 0 0 none 0 0).size = cs.size := by rw [hcs]; rfl
    have hA := At.new W 51 (tcells 0 none 0 0 none 0 0)
    have halt := zero_trans
    clear hC hV hget hcs
    gi_wp2_with (first | (refine wpIn_storeAt rfl 51 (.tmp 9) (.tmp 54) rfl W.heap.size cs (tcells 0 none 0 0 none 0 0) rfl rfl hA hinf hs0 hc1 ?_))
    intro w4 hA4 ho4
    have hb : Below W.heap.size W w4 := ((Below.refl _ W).alloc (Nat.le_refl _) _).trans (ho4.below (Nat.le_refl _))
    clear ho4 hA
    obtain ⟨p, hp⟩ : ∃ p, p = W.heap.size := ⟨_, rfl⟩
    rw [← hp] at hA4 ⊢
    gi_wp2
    exact hK p w4 hp hb hA4
  case body =>
    rintro lp k cs p W hk ⟨a, c, hall, st⟩ ⟨hBW, hN⟩ hv hp
    obtain ⟨t', ca, cc, ra, rc, hget, rfl, hC, hV⟩ := hv
    have htok := HLOK.out t' (List.mem_of_getElem? hget)
    have HGET := Lib.hid hget
    have HALL := Lib.hid hall
    have hg := st.f.g
    have HST := Lib.hid st
    have HNN := Lib.hid hN
    have HCC := Lib.hid hC
    have HVV := Lib.hid hV
    have hcall := outsideT_any G S I j t'.s t'.n t'.m t'.cb t'.cd t'.rv ca cc ra rc htok.cb htok.rv htok.n htok.m W (RMine.row hC (cpF_len _ _)) (RMine.row hV (inF_len _))
    have HCALL := Lib.hid hcall
    have HPP := Lib.hid hp
    have hpw := hp.lt
    clear hget hall st hN hC hV hcall htok
    gi_wp2_with (first | (refine wpIn_loadAt rfl 23 (.tmp 3) rfl w.heap.size (gcells G S I j) _ rfl hg Tryd.underlying23 rfl (by kernel_rfl) ?_) | (refine wpIn_loadAt rfl 51 (.tmp 9) rfl p (tcells t'.s ca t'.n cc ra t'.m rc) _ rfl hp Tryd.underlying51 rfl (info_trans _ _ _ _ _ _ _) ?_))
    refine ⟨trivial, ?_⟩
    refine (CallsIn.inRound lp (callsIn_wide.2 HCALL.out)).mono ?_
    rintro e W1 ⟨rfl, hb1⟩
    have ST1 := Lib.hid (HST.out.below hb1)
    have HN1 := Lib.hid (HNN.out.below hb1)
    have hp1 := HPP.out.below hb1 hpw
    have HPP1 := Lib.hid hp1
    have HC1 := Lib.hid (RMine.below HCC.out hb1)
    have HV1 := Lib.hid (RMine.below HVV.out hb1)
    have HK1 := Lib.hid (Below.keeps (B := w9.heap.size) hb1)
    have HBW1 : Hid (B9 ≤ W1.heap.size) := Nat.le_trans hBW hb1.size
    clear hg hp HPP HST HNN HCC HVV HCALL hb1 hpw
    cases ho : outT G S I j t'.n t'.cb t'.m t'.rv with
    | false =>
      have HNO : Hid (l.all (outTr G S I j) = false) := by
        show _ = _
        cases hall : l.all (outTr G S I j) with
        | false => rfl
        | true =>
          have := List.all_eq_true.1 hall t' (List.mem_of_getElem? HGET.out)
          unfold outTr at this
          rw [ho] at this; cases this
      have hh_ := ST1.out.f.h
      clear ho hp1
      gi_wp2_with (first | (refine wpIn_storeAt rfl 36 (.tmp 4) (.tmp 59) rfl (w.heap.size + 1) #[.int .u32 0, .int .i64 0] _ rfl rfl hh_ (info_head 0 0) rfl (one_head _ _) ?_))
      intro wx hHx hox
      have stx := ST1.out.f.head hTl HLB.out hHx hox
      have hd5 := stx.l.cell (i := 0) rfl
      have hd6 := stx.n.cell (i := 0) rfl
      have hd7 := stx.e.cell (i := 0) rfl
      have f5 : wx.frozen? ⟨w.heap.size + 1 + 1, 0, none⟩ = false := soft_of_heap stx.l 0
      have f6 : wx.frozen? ⟨w.heap.size + 1 + 1 + 1, 0, none⟩ = false := soft_of_heap stx.n 0
      have f7 : wx.frozen? ⟨w.heap.size + 1 + 1 + 1 + 1, 0, none⟩ = false := soft_of_heap stx.e 0
      have FIN := Lib.hid (stx.st3 hTl HLB.out (.slice none 0 0) 0 90)
      have KEE := Lib.hid ((HK1.out.trans (hox.keeps (hh_.cell (i := 0) rfl))).trans (stx.keeps3 hTl HLB.out w9.heap.size (.slice none 0 0) 0 90))
      clear hHx hox stx hh_
      gi_wp2
      exact ⟨KEE.out, rfl, HNO.out, FIN.out⟩
    | true =>
      have HALL1 : Hid ((l.take (k + 1)).all (outTr G S I j) = true) := by
        show _ = _
        rw [take_snoc HGET.out, List.all_append, HALL.out]
        simp [outTr, ho]
      have hlk : (l.take k).length = k := by rw [List.length_take]; omega
      have hbw9 : w.heap.size ≤ B9 := by rw [HB9.out]; exact HT9.out.f.bel.size
      obtain ⟨xs, hown, hsn⟩ := TrM.snoc ST1.out.m (RMine.low HC1.out hbw9) (RMine.low HV1.out hbw9)
      rw [hlk] at hown hsn
      rw [← take_snoc HGET.out] at hsn
      have HSN := Lib.hid hsn
      have HOWN := Lib.hid hown
      have hbs1 := fun W => run_trans1 t'.s ca t'.n cc ra t'.m rc W
      have hown2 : World.ownsRow (W1.alloc (.cells (tcells t'.s ca t'.n cc ra t'.m rc) 51)) w.heap.size 51 3 (.slice a k c) k xs := World.ownsRow.alloc hown _
      have hnews : ∀ i u, (tcells t'.s ca t'.n cc ra t'.m rc).toList[i]? = some u → (W1.alloc (.cells (tcells t'.s ca t'.n cc ra t'.m rc) 51)).cell? ((⟨W1.heap.size, 0, none⟩ : Addr).add i) = some u := fun i u hu => by
        have := cell_of_heap (heap_alloc_new W1 (.cells (tcells t'.s ca t'.n cc ra t'.m rc) 51)) (i := i) (v := u) (by rw [← hu, Array.getElem?_toList])
        rw [show (⟨W1.heap.size, 0, none⟩ : Addr).add i = ⟨W1.heap.size, i, none⟩ from by unfold Addr.add; split <;> simp_all]
        exact this
      have h1c : ∀ u ∈ (tcells t'.s ca t'.n cc ra t'.m rc).toList, u.oneCell' = true := fun u hu => by
        simp at hu
        rcases hu with rfl | rfl | rfl <;> rfl
      obtain ⟨i0, hi0, hz0, hz1, hz2⟩ := info_transP
      have hk255 : k + 1 ≤ 256 := by have := HL255.out; omega
      have hl5 := ST1.out.f.l.cell (i := 0) (v := .slice a k c) rfl
      have hbase : w.heap.size ≤ (W1.alloc (.cells (tcells t'.s ca t'.n cc ra t'.m rc) 51)).heap.size := by simp; have := ST1.out.f.bel.size; omega
      have hWW : Hid (Below W1.heap.size W1 (W1.alloc (.cells (tcells t'.s ca t'.n cc ra t'.m rc) 51))) := (Below.refl _ _).alloc (Nat.le_refl _) _
      clear hsn hlk hown ho
      gi_wp2_with (first | (refine wpIn_loadAt rfl 51 (.tmp 9) rfl p (tcells t'.s ca t'.n cc ra t'.m rc) _ rfl hp1 Tryd.underlying51 rfl (info_trans _ _ _ _ _ _ _) ?_) | (refine wpListIn_append_own _ rfl (.tmp 60) (.tmp 62) 56 rfl w.heap.size 51 i0 (.agg (tcells 0 none 0 0 none 0 0)) 3 56 Tryd.underlying56 hi0 hz0 hz1 hz2 rfl (by decide) (.slice a k c) k xs rfl hown2 ⟨W1.heap.size, 0, none⟩ 1 1 _ rfl rfl hnews h1c (by unfold maxLen; omega) (by omega) hbase ?_))
      intro v' w3 ho3 hg3 _
      have hf1 := ST1.out.f.below hWW.out
      have hf3 := hf1.grown hTl HLB.out hown2 hg3
      have htm3 := HSN.out _ _ v' hWW.out ho3 hg3
      have hn3 := (HN1.out.below hWW.out).grown (base := w.heap.size) hTl hown2 hg3
      have hpp3 : At w3 p8 36 #[.int .u32 hs, .int .i64 (t : Int)] := (hg3.block p8 (by have := ST1.out.p.lt; simp; omega) (fun e => at_own_neS (ST1.out.p.below hWW.out ST1.out.p.lt) hown2 (by decide) e.symm)).trans (ST1.out.p.below hWW.out ST1.out.p.lt)
      have hk3 := (HK1.out.trans (Below.keeps hWW.out)).trans (keeps_own (B := w9.heap.size) hown2 hg3)
      have hsz3 : B9 ≤ w3.heap.size := Nat.le_trans (Nat.le_trans HBW1.out hWW.out.size) hg3.size
      obtain ⟨ga, gc, rfl⟩ : ∃ ga gc, v' = .slice ga (k + 1) gc := by
        rcases ho3.2 with ⟨hv, h0⟩ | ⟨g', cap', cur, hv, _⟩
        · omega
        · exact ⟨_, _, hv⟩
      have hl3 := hf3.l.cell (i := 0) (v := .slice a k c) rfl
      have fz3 : w3.frozen? ⟨w.heap.size + 1 + 1, 0, none⟩ = false := soft_of_heap hf3.l 0
      have oL := Only.setCell w3 ⟨w.heap.size + 1 + 1, 0, none⟩ (.slice ga (k + 1) gc)
      have FIN : Hid (FdT w G S I j (some ⟨b, off, none⟩) N L hs t p8 ga (k + 1) gc (l.take (k + 1)) (w3.setCell ⟨w.heap.size + 1 + 1, 0, none⟩ (.slice ga (k + 1) gc))) :=
        ⟨hf3.setL hTl HLB.out _, hpp3.only oL (by show p8 ≠ w.heap.size + 1 + 1; omega), htm3.only hf3.l (by decide) (by decide) (by decide) oL⟩
      have FNN : Hid (FnN q bs bl R r hs (w3.setCell ⟨w.heap.size + 1 + 1, 0, none⟩ (.slice ga (k + 1) gc))) := hn3.only oL (by show bs ≠ w.heap.size + 1 + 1; omega) (by show bl ≠ w.heap.size + 1 + 1; omega) (by show q ≠ w.heap.size + 1 + 1; omega) (by show w.heap.size + 1 + 1 ≠ 0; omega)
      have KEE := Lib.hid (hk3.trans (keeps_cell (v := .slice ga (k + 1) gc) hf3.l))
      have SZZ : Hid (B9 ≤ (w3.setCell ⟨w.heap.size + 1 + 1, 0, none⟩ (.slice ga (k + 1) gc)).heap.size) := by rw [show (w3.setCell ⟨w.heap.size + 1 + 1, 0, none⟩ (.slice ga (k + 1) gc)).heap.size = w3.heap.size from oL.size]; exact hsz3
      clear hf1 hf3 htm3 hn3 hpp3 hk3 hsz3 oL ho3 hg3 hown2 hnews hbs1 hp1
      gi_wp2
      exact ⟨KEE.out, ⟨ga, gc, HALL1.out, FIN.out⟩, SZZ.out, FNN.out⟩
  case done =>
    intro D W hD hJ hK
    obtain ⟨a, c, hall, st⟩ := hJ
    rw [List.take_length] at hall st
    have HD := Lib.hid hK
    have hDw : w.heap.size + 1 + 1 + 1 + 1 < D := by have := HT9.out.f.e.lt; omega
    have HFE : Hid (fdE G S I j N L = if 2147483648 < hs + (l.length : Int) + 1 then 90 else 0) := by
      show _ = _
      rw [HFE0.out true hall.out, if_neg (by decide)]
    obtain ⟨n, hn⟩ : ∃ n, n = l.length := ⟨_, rfl⟩
    have HLL : Hid (l = fdL (j : Int) L ∧ n = l.length) := ⟨HLD.out, hn⟩
    rw [← hn] at st HFE
    have hn255 : n ≤ 255 := by rw [hn]; exact HL255.out
    have hnc : n ≤ c := by
      obtain ⟨_, _, _, _, hm, _⟩ := st.m
      rw [← hn] at hm
      exact rcap hm
    have hn9 : (n : Int) ≤ 255 := by omega
    have hn0 : (0 : Int) ≤ (n : Int) := by omega
    have HNC := Lib.hid hnc
    have HTT := Lib.hid st
    clear hn255 hnc hn hall hd7 f7 hposn ht9 hJ' htn ht0 hpos hN3 hi2 hB1 hB2 hB3 hB4 hqw hblw hbsw st hK HL0 HT9 HN9 HFE0 HLD HL255
    dsimp only
    have hc0 := HTT.out.p.cell (i := 0) (v := .int .u32 hs) rfl
    have hl5 := HTT.out.f.l.cell (i := 0) (v := .slice a n c) rfl
    by_cases hbig : 2147483648 < hs + (n : Int) + 1
    · have STT := Lib.hid HTT.out.f
      have hh_ := STT.out.h
      have HE_ : Hid (fdE G S I (j:Int) N L = 90) := by show _ = _; rw [HFE.out, if_pos hbig]
      go_wp2_with (first | (refine wp_storeAt rfl 36 (.tmp 4) (.tmp 74) rfl (w.heap.size + 1) #[.int .u32 0, .int .i64 0] _ rfl rfl hh_ (info_head 0 0) rfl (one_head _ _) ?_))
      intro wx hHx hox
      have stx := STT.out.head hTl HLB.out hHx hox
      have HDx : Hid (wx.heap[D]? = some (.deferred (some []))) := (hox.block D (by omega)).trans HD.out
      have hd5 := stx.l.cell (i := 0) rfl
      have hd6 := stx.n.cell (i := 0) rfl
      have hd7 := stx.e.cell (i := 0) rfl
      have f5 : wx.frozen? ⟨w.heap.size + 1 + 1, 0, none⟩ = false := soft_of_heap stx.l 0
      have f6 : wx.frozen? ⟨w.heap.size + 1 + 1 + 1, 0, none⟩ = false := soft_of_heap stx.n 0
      have f7 : wx.frozen? ⟨w.heap.size + 1 + 1 + 1 + 1, 0, none⟩ = false := soft_of_heap stx.e 0
      have POST : Hid (∀ W', FdPost w G S I (j:Int) N L (.returned (.tuple #[.agg #[.int .u32 0, .int .i64 0], .slice none 0 0, .int .u32 0, .int .i64 90])) W') := fun W' => .inl ⟨by rw [HE_.out]; decide, by rw [HE_.out]⟩
      have FIN := Lib.hid (stx.finD (.slice none 0 0) 0 90 HDx.out (by omega))
      have HD5 := Lib.hid (st3_D (.slice none 0 0) 0 90 HDx.out (by omega))
      clear hHx hox stx hh_
      go_wp2_with fail
      exact bodyPostM_done HD5.out (results_fd rfl _ _ _ _ _ _ _ _ _ _ _ rfl rfl rfl rfl FIN.out.1 FIN.out.2.1 FIN.out.2.2.1 FIN.out.2.2.2.1) ⟨POST.out _, FIN.out.2.2.2.2⟩
    have HE0 : Hid (fdE G S I (j:Int) N L = 0) := by show _ = _; rw [HFE.out, if_neg hbig]
    obtain ⟨X, hX⟩ : ∃ X, X = hs + (n : Int) + 1 := ⟨_, rfl⟩
    have HX := Lib.hid hX
    have hX0 : 0 ≤ X ∧ X ≤ 2147483648 := by omega
    have hbig' : hs + (n : Int) + 1 ≤ 2147483648 := by omega
    have HXB := Lib.hid hX0
    clear hbig hX hX0
    go_wp2_with fail
    obtain ⟨hX0, hX9⟩ := HXB.out
    have HT2 := Lib.hid (HTT.out.below (Below.refl _ _).drew)
    have HDD : Hid (w.heap.size + 1 + 1 + 1 + 1 < D) := by show _ < _; omega
    have HP8W := Lib.hid hp8w
    have HXW : Hid (hs + (n : Int) + 1 = X) := by show _ = _; rw [HX.out]
    have HCUT : Hid (∀ W, (Instr.sliceAt 56 (.slice a n c) none (some (.int .i64 (n : Int))) (some (.int .i64 (n : Int)))).run Tryd.prog W = .ok (.slice a n n) W) := fun W => (run_sliceAt_slice W 56 _ _ _ _ (by kernel_rfl)).trans (run_takeT a n c n (n : Int) rfl (by first | omega | exact HNC.out) W)
    have hcv : ∀ W, (convert 124 34 (.int .u64 X)).run Tryd.prog W = .ok (.int .u32 X) W := fun W => by
      have : IntKind.u32.wrap X = X := IntWalk.u32_in _ (by omega)
      simp [go_sem, this]
    have HCV := Lib.hid hcv
    clear hcv HTT hc0 hl5
    refine wp_region_invA (FdI w p8 hs (t : Int) a n c l X D (some (.deferred (some [])))) (by kernel_rfl) (by kernel_rfl) (fun _ _ _ _ he h => h.congr he) ⟨rfl, rfl, fun _ _ => rfl, (fun i hi h => by cases h), HT2.out.p, HT2.out.f.h, HT2.out.f.l, HT2.out.f.n, HT2.out.f.e, HT2.out.m, (fun h => by cases h), HD.out, HT2.out.f.bel⟩ ⟨?_, ?_, ?_, ?_, ?_, ?_, ?_, ?_, ?_, ?_, ?_, ?_, ?_, trivial⟩ ?_
    · intro f a' w' hl hu h
      exact Tb.wpOp_of rfl rfl (op_ldrow 36 (.tmp 8) rfl p8 #[.int .u32 hs, .int .i64 (t : Int)] _ (h.other 8 (by omega)) h.p Tryd.underlying36 rfl (info_head hs (t : Int)) (h.quiet 0 (by omega) _ rfl))
    · intro f a' w' hl hu h
      have h10 : f 10 = false := by
        cases e : f 10 with
        | false => rfl
        | true => have := h.w10 e; rw [this.1] at hl; cases hl
      have hc := h.fl.cell (i := 0) (v := .slice a n c) (by rw [h10]; rfl)
      exact Tb.wpOp_of rfl rfl (op_ldc 56 (.tmp 5) rfl (w.heap.size + 1 + 1) 0 _ (h.other 5 (by omega)) hc (by kernel_rfl) (h.quiet 1 (by omega) _ rfl))
    · intro f a' w' hl hu h
      have h10 : f 10 = false := by
        cases e : f 10 with
        | false => rfl
        | true => have := h.w10 e; rw [this.2.1] at hl; cases hl
      have hc := h.fl.cell (i := 0) (v := .slice a n c) (by rw [h10]; rfl)
      exact Tb.wpOp_of rfl rfl (op_ldc 56 (.tmp 5) rfl (w.heap.size + 1 + 1) 0 _ (h.other 5 (by omega)) hc (by kernel_rfl) (h.quiet 2 (by omega) _ rfl))
    · intro f a' w' hl hu h
      have k2 := op_up hu 2 (by kernel_rfl)
      exact Tb.wpOp_of rfl rfl (op_len (.tmp 77) 56 rfl 51 Tryd.underlying56 a n c (h.vals 2 (by omega) k2) (h.quiet 3 (by omega) _ rfl))
    · intro f a' w' hl hu h
      have h10 : f 10 = false := by
        cases e : f 10 with
        | false => rfl
        | true => have := h.w10 e; rw [this.2.2] at hl; cases hl
      have hc := h.fl.cell (i := 0) (v := .slice a n c) (by rw [h10]; rfl)
      exact Tb.wpOp_of rfl rfl (op_ldc 56 (.tmp 5) rfl (w.heap.size + 1 + 1) 0 _ (h.other 5 (by omega)) hc (by kernel_rfl) (h.quiet 4 (by omega) _ rfl))
    · intro f a' w' hl hu h
      have k4 := op_up hu 4 (by kernel_rfl)
      exact Tb.wpOp_of rfl rfl (op_len (.tmp 79) 56 rfl 51 Tryd.underlying56 a n c (h.vals 4 (by omega) k4) (h.quiet 5 (by omega) _ rfl))
    · intro f a' w' hl hu h
      have k1 := h.vals 1 (by omega) (op_up hu 1 (by kernel_rfl))
      have k3 := h.vals 3 (by omega) (op_up hu 3 (by kernel_rfl))
      have k5 := h.vals 5 (by omega) (op_up hu 5 (by kernel_rfl))
      have e1 : a'.eval (.tmp 76) = .slice a n c := k1
      have e3 : a'.eval (.tmp 78) = .int .i64 (n : Int) := k3
      have e5 : a'.eval (.tmp 80) = .int .i64 (n : Int) := k5
      have hcu := HCUT.out w'
      refine Tb.wpOp_of rfl rfl (op_val (v := .slice a n n) (w' := w') ?_ (h.quiet 6 (by omega) _ rfl))
      unfold execOp
      simp [e1, e3, e5, hcu]
    · intro f a' w' hl hu h
      exact Tb.wpOp_of rfl rfl (op_move (.tmp 10) rfl (.int .u64 X) ((h.other 10 (by omega)).trans (congrArg (Value.int IntKind.u64) HXW.out)) (h.quiet 7 (by omega) _ rfl))
    · intro f a' w' hl hu h
      have k7 := h.vals 7 (by omega) (op_up hu 7 (by kernel_rfl))
      have e7 : a'.eval (.tmp 82) = .int .u64 X := k7
      have hcv := HCV.out w'
      refine Tb.wpOp_of rfl rfl (op_val (v := .int .u32 X) (w' := w') ?_ (h.quiet 8 (by omega) _ rfl))
      unfold execOp
      simp [e7, hcv]
    · intro f a' w' hl hu h
      have k0 := h.vals 0 (by omega) (op_up hu 0 (by kernel_rfl))
      have hh9 := h.h
      rw [show f 9 = false from hl, if_neg (by decide)] at hh9
      exact Tb.wpOp_of rfl rfl (op_strow 36 (.tmp 4) (.tmp 75) rfl (w.heap.size + 1) #[.int .u32 hs, .int .i64 (t : Int)] _ (h.other 4 (by omega)) k0 hh9 (info_head hs (t : Int)) rfl (one_head _ _) (fun W' q1 q2 => h.st9 HP8W.out HDD.out q1 q2))
    · intro f a' w' hl hu h
      have k6 := h.vals 6 (by omega) (op_up hu 6 (by kernel_rfl))
      exact Tb.wpOp_of rfl rfl (op_stc 56 (.tmp 5) (.tmp 81) rfl (w.heap.size + 1 + 1) _ (.slice a n n) _ (h.other 5 (by omega)) k6 h.fl (fun W q1 q2 => stc_trs _ _ _ _ _ W q1 q2) (h.st10 (op_up hu 1 (by kernel_rfl)) (op_up hu 2 (by kernel_rfl)) (op_up hu 4 (by kernel_rfl)) HP8W.out HDD.out))
    · intro f a' w' hl hu h
      have k8 := h.vals 8 (by omega) (op_up hu 8 (by kernel_rfl))
      exact Tb.wpOp_of rfl rfl (op_stc 34 (.tmp 6) (.tmp 83) rfl (w.heap.size + 1 + 1 + 1) _ (.int .u32 X) _ (h.other 6 (by omega)) k8 h.fn (fun W q1 q2 => stc_u32 _ _ _ W q1 q2) (h.st11 HP8W.out HDD.out))
    · intro f a' w' hl hu h
      exact Tb.wpOp_of rfl rfl (op_stc 27 (.tmp 7) (.const (.int .i64 0)) rfl (w.heap.size + 1 + 1 + 1 + 1) _ (.int .i64 0) _ (h.other 7 (by omega)) rfl h.e (fun W q1 q2 => stc_err _ _ _ W q1 q2) (h.st12 HP8W.out HDD.out))
    intro af wf h
    have o4 := h.other 4 (by omega)
    have o5 := h.other 5 (by omega)
    have o6 := h.other 6 (by omega)
    have o7 := h.other 7 (by omega)
    have hdf := h.defers
    have HF := Lib.hid h
    clear h HT2 HCUT HCV
    have hh := HF.out.h
    rw [if_pos rfl] at hh
    have hl' := HF.out.fl.cell (i := 0) (v := .slice a n n) rfl
    have hn' := HF.out.fn.cell (i := 0) (v := .int .u32 X) rfl
    have he' := HF.out.e.cell (i := 0) (v := .int .i64 0) rfl
    have hrw := HF.out.m.q HLL.out.2
    have POST : Hid (∀ W', TrQ W' a l → FdPost w G S I (j:Int) N L (.returned (.tuple #[.agg #[.int .u32 hs, .int .i64 (t : Int)], .slice a n n, .int .u32 X, .int .i64 0])) W') := fun W' hr => .inr ⟨HE0.out, a, n, by rw [HX.out, HHS.out, HHT.out, ← HLL.out.1]; first | rfl | rw [← HLL.out.2], by rw [← HLL.out.1]; exact hr⟩
    obtain ⟨tm, df⟩ := af
    obtain rfl : df = [{ target := .collected D, args := #[] }] := hdf
    have hg := grownBy_putObj' wf D (.deferred none)
    have hr : ∀ r, some D = some r → 0 ≤ r ∧ ∃ o : Obj, wf.heap[r]? = some o ∧ o.isCells = false := fun r e => by cases e; exact ⟨Nat.zero_le _, _, HF.out.d, rfl⟩
    have HH := Lib.hid (Kept.at _ _ _ _ _ hh hg hr)
    have HC1 := Lib.hid (Kept.cell 0 _ _ _ _ _ hl' hg hr)
    have HC2 := Lib.hid (Kept.cell 0 _ _ _ _ _ hn' hg hr)
    have HC3 := Lib.hid (Kept.cell 0 _ _ _ _ _ he' hg hr)
    have HRW := Lib.hid ((TrM.kept _ _ 0 _ _ _ HF.out.m hg hr).q HLL.out.2)
    have HBL2 := Lib.hid (below_putObj HF.out.bel (.deferred none) (Nat.le_refl _) (show w.heap.size ≤ D by have := HDD.out; omega))
    have HD9 := Lib.hid HF.out.d
    clear HF hh hl' hn' he' hrw hg hr
    go_wp2_with fail
    exact bodyPostM_done HD9.out (results_fd rfl tm _ _ _ _ _ hs (t : Int) _ X 0 o4 o5 o6 o7 HH.out HC1.out HC2.out HC3.out) ⟨POST.out _ HRW.out, HBL2.out⟩
  case stop =>
    rintro D c k W hD hk ⟨rfl, hall, st⟩ hK
    have HD := Lib.hid hK
    have hDw : w.heap.size + 1 + 1 + 1 + 1 < D := by have := HT9.out.f.e.lt; omega
    have HE_ : Hid (fdE G S I j N L = 90) := by
      show _ = _
      rw [HFE0.out false hall.out, if_pos rfl]
    have hg := grownBy_putObj' W D (.deferred none)
    have hr : ∀ r, some D = some r → 0 ≤ r ∧ ∃ o : Obj, W.heap[r]? = some o ∧ o.isCells = false := fun r e => by cases e; exact ⟨Nat.zero_le _, _, hK, rfl⟩
    have HH := Lib.hid (Kept.at _ _ _ _ _ st.h hg hr)
    have HC1 := Lib.hid (Kept.cell 0 _ _ _ _ _ (st.l.cell (i := 0) rfl) hg hr)
    have HC2 := Lib.hid (Kept.cell 0 _ _ _ _ _ (st.n.cell (i := 0) rfl) hg hr)
    have HC3 := Lib.hid (Kept.cell 0 _ _ _ _ _ (st.e.cell (i := 0) rfl) hg hr)
    have HBL2 := Lib.hid (below_putObj st.bel (.deferred none) (Nat.le_refl _) (show w.heap.size ≤ D by omega))
    have POST : Hid (∀ W', FdPost w G S I j N L (.returned (.tuple #[.agg #[.int .u32 0, .int .i64 0], .slice none 0 0, .int .u32 0, .int .i64 90])) W') := fun W' => .inl ⟨by rw [HE_.out]; decide, by rw [HE_.out]⟩
    clear st hg hr hK hall
    go_wp2_with fail
    exact bodyPostM_done HD.out (results_fd rfl _ _ _ _ _ _ 0 0 _ 0 90 rfl rfl rfl rfl HH.out HC1.out HC2.out HC3.out) ⟨POST.out _, HBL2.out⟩
end Go.Proofs.YtnbmmhoofilmfaaDoor
