/- Texts of this claim, merged by a program (a claim may have 60 files): Sc4b, Fz, Sc5, Sl1, Sd0. -/
import Derived.Test.YtnbmmhoofilmfaaGreatDoorK32
import Derived.Test.YtnbmmhoofilmfaaGreatDoorK07
/- scan.Find: what its loop keeps. -/
namespace Go.Proofs.YtnbmmhoofilmfaaGreatDoor
open Go.RowKit
set_option linter.unusedVariables false

section
variable {w : World} {G S I J : Int} {la : Option Addr} {N : Nat} {L : Nat → Nat → Int} {hs ht : Int} {av : Value} {nn E : Int} {W W' : World}
theorem FdS.setL (h : FdS w G S I J la N L hs ht av nn E W) (hTl : 0 < w.heap.size) (hlb : ∀ b off, la = some ⟨b, off, none⟩ → 0 < N → b < w.heap.size) (v : Value) : FdS w G S I J la N L hs ht v nn E (W.setCell ⟨w.heap.size + 1 + 1, 0, none⟩ v) := by
  have ho := Only.setCell W ⟨w.heap.size + 1 + 1, 0, none⟩ v
  exact ⟨h.g.only ho (by show w.heap.size ≠ w.heap.size + 1 + 1; omega), h.h.only ho (by show w.heap.size + 1 ≠ w.heap.size + 1 + 1; omega), h.l.set0 _, h.n.only ho (by show w.heap.size + 1 + 1 + 1 ≠ w.heap.size + 1 + 1; omega), h.e.only ho (by show w.heap.size + 1 + 1 + 1 + 1 ≠ w.heap.size + 1 + 1; omega), by
    rcases h.r with h0 | h0
    · exact .inl h0
    · rcases Nat.eq_zero_or_pos N with e | e
      · exact .inl e
      · exact RRow.only (.inr h0) ho fun b off e' => by have := hlb b off e' e; show b ≠ w.heap.size + 1 + 1; omega, h.ta.only ho (by show w.heap.size + 1 + 1 ≠ 0; omega), h.bel.trans (ho.below (by show _ ≤ w.heap.size + 1 + 1; omega))⟩
theorem FdS.setN (h : FdS w G S I J la N L hs ht av nn E W) (hTl : 0 < w.heap.size) (hlb : ∀ b off, la = some ⟨b, off, none⟩ → 0 < N → b < w.heap.size) (v : Int) : FdS w G S I J la N L hs ht av v E (W.setCell ⟨w.heap.size + 1 + 1 + 1, 0, none⟩ (.int .u32 v)) := by
  have ho := Only.setCell W ⟨w.heap.size + 1 + 1 + 1, 0, none⟩ (.int .u32 v)
  exact ⟨h.g.only ho (by show w.heap.size ≠ w.heap.size + 1 + 1 + 1; omega), h.h.only ho (by show w.heap.size + 1 ≠ w.heap.size + 1 + 1 + 1; omega), h.l.only ho (by show w.heap.size + 1 + 1 ≠ w.heap.size + 1 + 1 + 1; omega), h.n.set0 _, h.e.only ho (by show w.heap.size + 1 + 1 + 1 + 1 ≠ w.heap.size + 1 + 1 + 1; omega), by
    rcases h.r with h0 | h0
    · exact .inl h0
    · rcases Nat.eq_zero_or_pos N with e | e
      · exact .inl e
      · exact RRow.only (.inr h0) ho fun b off e' => by have := hlb b off e' e; show b ≠ w.heap.size + 1 + 1 + 1; omega, h.ta.only ho (by show w.heap.size + 1 + 1 + 1 ≠ 0; omega), h.bel.trans (ho.below (by show _ ≤ w.heap.size + 1 + 1 + 1; omega))⟩
theorem FdS.st3 (h : FdS w G S I J la N L hs ht av nn E W) (hTl : 0 < w.heap.size) (hlb : ∀ b off, la = some ⟨b, off, none⟩ → 0 < N → b < w.heap.size) (v : Value) (n' E' : Int) : FdS w G S I J la N L hs ht v n' E' (st3 W w.heap.size v n' E') :=
  ((h.setL hTl hlb v).setN hTl hlb n').setE hTl hlb E'
theorem keeps_cell {B b : Nat} {v u : Value} {T : TypeId} (hA : At W b T #[u]) : KeepsFrom B W (W.setCell ⟨b, 0, none⟩ v) := (Only.setCell W ⟨b, 0, none⟩ v).keeps (hA.cell (i := 0) rfl)
theorem keeps_own {B base k size : Nat} {e : TypeId} {v : Value} {xs : List Value} (ho : W.ownsRow base e size v k xs) (hg : W.grownBy W' v.ownBlock) : KeepsFrom B W W' :=
  ⟨hg.size, fun i o _ hi hc => by
    refine (hg.block i (Array.getElem?_eq_some_iff.1 hi).1 (fun e => ?_)).trans hi
    rcases ho.2 with ⟨hv, _⟩ | ⟨g', cap', cur, hv, hbg, hg', _⟩
    · subst hv; cases e
    · subst hv
      have : i = g' := by simpa [Value.ownBlock] using e
      subst this
      rw [hi] at hg'
      injection hg' with hg'
      subst hg'
      cases hc⟩
end
end Go.Proofs.YtnbmmhoofilmfaaGreatDoor

/- scan.Find where the journal is empty. Printed by gen_fz.py out of XSc5. -/
namespace Go.Proofs.YtnbmmhoofilmfaaGreatDoor
open Go.RowKit
set_option linter.unusedVariables false
attribute [local go_sem] Oper.semAt_some

set_option maxRecDepth 100000 in
set_option maxHeartbeats 8000000 in
theorem find18_zero (G S I J : Int) (la : Option Addr) (N cap : Nat) (L : Nat → Nat → Int) (hL : ∀ i, Byt (L i)) (hc : N ≤ cap) (hc9 : (cap : Int) ≤ 9223372036854775807) (w : World) (hT : Tab w) (hl : RRow w la 256 N (bkF L)) (hz : ¬ 0 < hdT (L 2)) :
    Calls Tryz.prog 36 #[.slice la N cap, gval G S I J] w fun e w' => FdPost w G S I J N L e w' ∧ Below w.heap.size w w' := by
  refine (callsIn_wide (n := 5)).1 (callsIn_of_wp_marks Tryz.func36 rfl trivial ?_ rfl)
  refine wpIn_wide.2 ?_
  simp only [Tryz.ntmps36, List.size_toArray, List.length_cons, List.length_nil, Nat.reduceAdd, Nat.reduceSub, Array.replicate_succ, Array.replicate_zero, List.push_toArray, List.append_toArray, List.nil_append, List.cons_append]
  have hTl := hT.lt
  have hal := zero_head
  have HZZ := Lib.hid hz
  clear hz
  obtain ⟨W0, hW0⟩ : ∃ W0, W0 = ((((w.alloc (.cells (gcells G S I J) 23)).alloc (.cells #[.int .u32 0, .int .i64 0] 83)).alloc (.cells #[.slice none 0 0] 84)).alloc (.cells #[.int .u32 0] 45)).alloc (.cells #[.int .i64 0] 48) := ⟨_, rfl⟩
  have st0 : Hid (FdS w G S I J la N L 0 0 (.slice none 0 0) 0 0 W0) := by
    rw [hW0]
    refine ⟨((((At.new w _ _).alloc _).alloc _).alloc _).alloc _, ?_, ?_, ?_, ?_, ((((hl.alloc _).alloc _).alloc _).alloc _).alloc _, ((((hT.alloc _).alloc _).alloc _).alloc _).alloc _, (((((Below.refl _ _).alloc (Nat.le_refl _) _).alloc (by simp) _).alloc (by simp; omega) _).alloc (by simp; omega) _).alloc (by simp; omega) _⟩
    · have := ((At.new (w.alloc (.cells (gcells G S I J) 23)) 83 #[.int .u32 0, .int .i64 0]).alloc (.cells #[.slice none 0 0] 84)).alloc (.cells #[.int .u32 0] 45) |>.alloc (.cells #[.int .i64 0] 48)
      simp only [World.size_alloc] at this; exact this
    · have := ((At.new ((w.alloc (.cells (gcells G S I J) 23)).alloc (.cells #[.int .u32 0, .int .i64 0] 83)) 84 #[.slice none 0 0]).alloc (.cells #[.int .u32 0] 45)).alloc (.cells #[.int .i64 0] 48)
      simp only [World.size_alloc] at this; exact this
    · have := (At.new (((w.alloc (.cells (gcells G S I J) 23)).alloc (.cells #[.int .u32 0, .int .i64 0] 83)).alloc (.cells #[.slice none 0 0] 84)) 45 #[.int .u32 0]).alloc (.cells #[.int .i64 0] 48)
      simp only [World.size_alloc] at this; exact this
    · have := At.new ((((w.alloc (.cells (gcells G S I J) 23)).alloc (.cells #[.int .u32 0, .int .i64 0] 83)).alloc (.cells #[.slice none 0 0] 84)).alloc (.cells #[.int .u32 0] 45)) 48 #[.int .i64 0]
      simp only [World.size_alloc] at this; exact this
  have HW0 := Lib.hid hW0
  have hg0 := st0.out.g
  rw [hW0] at hg0
  have HBL := Lib.hid hL
  have hbh : ∀ W, (Instr.build 83 #[]).run Tryz.prog W = .ok (.agg #[.int .u32 0, .int .i64 0]) W := fun W => by kernel_rfl
  have HLB := Lib.hid (rrow_old hl (bkF_len _) (by omega))
  clear hL hT hl hW0
  go_wp2_with (first | (refine wp_loadAtG rfl 23 (.tmp 3) rfl _ _ _ rfl hg0 Tryz.underlying23 rfl (by kernel_rfl) ?_))
  rw [show ((((w.alloc (.cells #[.int .i64 G, .int .i64 S, .int .i64 I, .int .i64 J] 23)).alloc (.cells #[.int .u32 0, .int .i64 0] 83)).alloc (.cells #[.slice none 0 0] 84)).alloc (.cells #[.int .u32 0] 45)).alloc (.cells #[.int .i64 0] 48) = W0 from HW0.out.symm]
  clear HW0 hg0
  refine (geoMay_any G S I J W0).mono ?_
  rintro e w1 ⟨rfl, hb1⟩
  have ST1 := Lib.hid (st0.out.below hb1)
  clear st0 hb1
  cases hmay : mayG G S I J with
  | false =>
    have hh_ := ST1.out.h
    have HE_ : Hid (fdE G S I J N L = 50) := (by show _ = _; unfold fdE; rw [if_pos hmay])
    go_wp2_with (first | (refine wp_storeAt rfl 83 (.tmp 4) (.tmp 14) rfl (w.heap.size + 1) #[.int .u32 0, .int .i64 0] _ rfl rfl hh_ (info_head 0 0) rfl (one_head _ _) ?_))
    intro wx hHx hox
    have stx := ST1.out.head hTl HLB.out hHx hox
    have hd5 := stx.l.cell (i := 0) rfl
    have hd6 := stx.n.cell (i := 0) rfl
    have hd7 := stx.e.cell (i := 0) rfl
    have f5 : wx.frozen? ⟨w.heap.size + 1 + 1, 0, none⟩ = false := soft_of_heap stx.l 0
    have f6 : wx.frozen? ⟨w.heap.size + 1 + 1 + 1, 0, none⟩ = false := soft_of_heap stx.n 0
    have f7 : wx.frozen? ⟨w.heap.size + 1 + 1 + 1 + 1, 0, none⟩ = false := soft_of_heap stx.e 0
    have POST : Hid (∀ W', FdPost w G S I J N L (.returned (.tuple #[.agg #[.int .u32 0, .int .i64 0], .slice none 0 0, .int .u32 0, .int .i64 50])) W') := fun W' => .inl ⟨by rw [HE_.out]; decide, by rw [HE_.out]⟩
    have FIN := Lib.hid (stx.fin (.slice none 0 0) 0 50)
    clear hHx hox stx hh_
    go_wp2_with fail
    exact bodyPostM_early (results_fd rfl _ _ _ _ _ _ _ _ _ _ _ rfl rfl rfl rfl FIN.out.1 FIN.out.2.1 FIN.out.2.2.1 FIN.out.2.2.2.1) ⟨POST.out _, FIN.out.2.2.2.2⟩
  | true =>
  have HMAY := Lib.hid hmay
  clear hmay
  have hg1 := ST1.out.g
  go_wp2_with (first | (refine wp_loadAtG rfl 23 (.tmp 3) rfl _ _ _ rfl hg1 Tryz.underlying23 rfl (by kernel_rfl) ?_))
  refine (geoBlocks_any G S I J w1).mono ?_
  rintro e w2 ⟨rfl, hb2⟩
  have ST2 := Lib.hid (ST1.out.below hb2)
  clear ST1 hb2 hg1
  by_cases hN : (N : Int) = nBl G S I J
  rotate_left
  · have hne : ((N : Int) != nBl G S I J) = true := by rw [bne_iff_ne]; exact hN
    have HNN := Lib.hid hN
    clear hN
    have hh_ := ST2.out.h
    have HE_ : Hid (fdE G S I J N L = 2) := (by show _ = _; unfold fdE; rw [if_neg (by rw [HMAY.out]; decide), if_pos HNN.out])
    go_wp2_with (first | (refine wp_storeAt rfl 83 (.tmp 4) (.tmp 20) rfl (w.heap.size + 1) #[.int .u32 0, .int .i64 0] _ rfl rfl hh_ (info_head 0 0) rfl (one_head _ _) ?_))
    intro wx hHx hox
    have stx := ST2.out.head hTl HLB.out hHx hox
    have hd5 := stx.l.cell (i := 0) rfl
    have hd6 := stx.n.cell (i := 0) rfl
    have hd7 := stx.e.cell (i := 0) rfl
    have f5 : wx.frozen? ⟨w.heap.size + 1 + 1, 0, none⟩ = false := soft_of_heap stx.l 0
    have f6 : wx.frozen? ⟨w.heap.size + 1 + 1 + 1, 0, none⟩ = false := soft_of_heap stx.n 0
    have f7 : wx.frozen? ⟨w.heap.size + 1 + 1 + 1 + 1, 0, none⟩ = false := soft_of_heap stx.e 0
    have POST : Hid (∀ W', FdPost w G S I J N L (.returned (.tuple #[.agg #[.int .u32 0, .int .i64 0], .slice none 0 0, .int .u32 0, .int .i64 2])) W') := fun W' => .inl ⟨by rw [HE_.out]; decide, by rw [HE_.out]⟩
    have FIN := Lib.hid (stx.fin (.slice none 0 0) 0 2)
    clear hHx hox stx hh_
    go_wp2_with fail
    exact bodyPostM_early (results_fd rfl _ _ _ _ _ _ _ _ _ _ _ rfl rfl rfl rfl FIN.out.1 FIN.out.2.1 FIN.out.2.2.1 FIN.out.2.2.2.1) ⟨POST.out _, FIN.out.2.2.2.2⟩
  rw [← hN]
  have HNN := Lib.hid hN
  have hN3 : 3 ≤ N := by
    obtain ⟨q1, q2, q3, q4, q5, q6, q7, q8, q9, q10, q11⟩ := (mayG_iff G S I J).1 HMAY.out
    have h1 : nBl G S I J = 2 + J + G * S := by unfold nBl; rw [HMAY.out, if_pos rfl]
    have h2 : 0 ≤ G * S := Int.mul_nonneg (by omega) (by omega)
    omega
  clear hN
  obtain ⟨b, off, rfl⟩ : ∃ b off, la = some ⟨b, off, none⟩ := by
    rcases ST2.out.r with h | ⟨b, off, h, _⟩
    · omega
    · exact ⟨b, off, h⟩
  have hrg : w2.rangeAt b (off + 2 * 256) (Ks .u8 256 (L 2)) := by
    rcases ST2.out.r with h | ⟨b', off', h, hs⟩
    · omega
    · injection h with h
      injection h with e1 e2
      subst e1 e2
      exact RSeg.range hs 2 (by omega)
  have hi2 : (2 : Int) < (N : Int) := by omega
  go_wp2_with (first | (refine wp_loadMid rfl 32 (.tmp 23) rfl b (off + 2 * 256) (Ks .u8 256 (L 2)) _ rfl hrg Tryz.underlying32 rfl (by rw [Ks_length]; exact info_block) ?_))
  refine (readHead_any (L 2) (HBL.out 2) w2).mono ?_
  rintro e w3 ⟨rfl, hb3⟩
  have hP8 := At.new w3 83 #[.int .u32 0, .int .i64 0]
  have hb2 : Below w2.heap.size w2 (w3.alloc (.cells #[.int .u32 0, .int .i64 0] 83)) := hb3.alloc hb3.size _
  have hw3 := hb3.size
  clear hrg hb3
  go_wp2_with (first | (refine wp_storeAt rfl 83 (.tmp 8) (.tmp 26) rfl w3.heap.size #[.int .u32 (hdS (L 2)), .int .i64 (hdT (L 2))] #[.int .u32 0, .int .i64 0] rfl rfl hP8 (info_head _ _) rfl (one_head _ _) ?_))
  intro w4 hP4 ho4
  obtain ⟨p8, hp8⟩ : ∃ p8, p8 = w3.heap.size := ⟨_, rfl⟩
  rw [← hp8] at hP4 ho4 hP8 ⊢
  have hp8w : w.heap.size + 1 + 1 + 1 + 1 < p8 := by have := ST2.out.e.lt; omega
  have ST4 := Lib.hid (ST2.out.below (hb2.trans (ho4.below (by omega))))
  have hd7 := ST4.out.e.cell (i := 0) (v := .int .i64 0) rfl
  have f7 : w4.frozen? ⟨w.heap.size + 1 + 1 + 1 + 1, 0, none⟩ = false := soft_of_heap ST4.out.e 0
  clear hP8 hb2 ho4 hp8 hw3
  cases hrd : headRd (L 2) with
  | false =>
    have hE0 : errOf false 90 = 90 := rfl
    rw [hE0]
    have STE := Lib.hid (ST4.out.setE hTl HLB.out 90)
    have HRD := Lib.hid hrd
    clear hrd hE0 hP4 ST4 ST2
    have hh_ := STE.out.h
    have HE_ : Hid (fdE G S I J N L = 90) := (by show _ = _; unfold fdE; rw [if_neg (by rw [HMAY.out]; decide), if_neg (fun h => h HNN.out), if_pos (.inl HRD.out)])
    go_wp2_with (first | (refine wp_storeAt rfl 83 (.tmp 4) (.tmp 42) rfl (w.heap.size + 1) #[.int .u32 0, .int .i64 0] _ rfl rfl hh_ (info_head 0 0) rfl (one_head _ _) ?_))
    intro wx hHx hox
    have stx := STE.out.head hTl HLB.out hHx hox
    have hd5 := stx.l.cell (i := 0) rfl
    have hd6 := stx.n.cell (i := 0) rfl
    have hd7 := stx.e.cell (i := 0) rfl
    have f5 : wx.frozen? ⟨w.heap.size + 1 + 1, 0, none⟩ = false := soft_of_heap stx.l 0
    have f6 : wx.frozen? ⟨w.heap.size + 1 + 1 + 1, 0, none⟩ = false := soft_of_heap stx.n 0
    have f7 : wx.frozen? ⟨w.heap.size + 1 + 1 + 1 + 1, 0, none⟩ = false := soft_of_heap stx.e 0
    have POST : Hid (∀ W', FdPost w G S I J N L (.returned (.tuple #[.agg #[.int .u32 0, .int .i64 0], .slice none 0 0, .int .u32 0, .int .i64 90])) W') := fun W' => .inl ⟨by rw [HE_.out]; decide, by rw [HE_.out]⟩
    have FIN := Lib.hid (stx.fin (.slice none 0 0) 0 90)
    clear hHx hox stx hh_
    go_wp2_with fail
    exact bodyPostM_early (results_fd rfl _ _ _ _ _ _ _ _ _ _ _ rfl rfl rfl rfl FIN.out.1 FIN.out.2.1 FIN.out.2.2.1 FIN.out.2.2.2.1) ⟨POST.out _, FIN.out.2.2.2.2⟩
  | true =>
  have hE0 : errOf true 90 = 0 := rfl
  rw [hE0]
  obtain ⟨hs, hhs⟩ : ∃ hs, hs = hdS (L 2) := ⟨_, rfl⟩
  obtain ⟨ht, hht⟩ : ∃ ht, ht = hdT (L 2) := ⟨_, rfl⟩
  have hsb : 1 ≤ hs ∧ hs ≤ 2147483648 := by rw [hhs]; exact hdS_bd hrd
  have htb : 0 ≤ ht ∧ ht < 4294967296 := by rw [hht]; exact hdT_bd (HBL.out 2)
  have HHS := Lib.hid hhs
  have HHT := Lib.hid hht
  have HRD := Lib.hid hrd
  have STE := Lib.hid (ST4.out.setE hTl HLB.out 0)
  have HP5 : Hid (At (w4.setCell ⟨w.heap.size + 1 + 1 + 1 + 1, 0, none⟩ (.int .i64 0)) p8 83 #[.int .u32 hs, .int .i64 ht]) := by
    rw [hhs, hht]; exact hP4.only (Only.setCell w4 ⟨w.heap.size + 1 + 1 + 1 + 1, 0, none⟩ (.int .i64 0)) (by show p8 ≠ w.heap.size + 1 + 1 + 1 + 1; omega)
  rw [← hhs, ← hht]
  obtain ⟨hs1, hs9⟩ := hsb
  obtain ⟨ht0, ht9⟩ := htb
  have htn : ¬ ht < 0 := by omega
  clear hhs hht hrd hE0 hP4 ST4 ST2
  have hp81 := HP5.out.cell (i := 1) (v := .int .i64 ht) rfl
  have hg3 := STE.out.g.cell (i := 3) (v := .int .i64 J) rfl
  by_cases hJ : J ≤ ht
  · have HJ := Lib.hid hJ
    have hh_ := STE.out.h
    have HE_ : Hid (fdE G S I J N L = 90) := (by show _ = _; unfold fdE; rw [if_neg (by rw [HMAY.out]; decide), if_neg (fun h => h HNN.out), if_pos (.inr (by rw [← HHT.out]; exact HJ.out))])
    go_wp2_with (first | (refine wp_storeAt rfl 83 (.tmp 4) (.tmp 42) rfl (w.heap.size + 1) #[.int .u32 0, .int .i64 0] _ rfl rfl hh_ (info_head 0 0) rfl (one_head _ _) ?_))
    intro wx hHx hox
    have stx := STE.out.head hTl HLB.out hHx hox
    have hd5 := stx.l.cell (i := 0) rfl
    have hd6 := stx.n.cell (i := 0) rfl
    have hd7 := stx.e.cell (i := 0) rfl
    have f5 : wx.frozen? ⟨w.heap.size + 1 + 1, 0, none⟩ = false := soft_of_heap stx.l 0
    have f6 : wx.frozen? ⟨w.heap.size + 1 + 1 + 1, 0, none⟩ = false := soft_of_heap stx.n 0
    have f7 : wx.frozen? ⟨w.heap.size + 1 + 1 + 1 + 1, 0, none⟩ = false := soft_of_heap stx.e 0
    have POST : Hid (∀ W', FdPost w G S I J N L (.returned (.tuple #[.agg #[.int .u32 0, .int .i64 0], .slice none 0 0, .int .u32 0, .int .i64 90])) W') := fun W' => .inl ⟨by rw [HE_.out]; decide, by rw [HE_.out]⟩
    have FIN := Lib.hid (stx.fin (.slice none 0 0) 0 90)
    clear hHx hox stx hh_
    go_wp2_with fail
    exact bodyPostM_early (results_fd rfl _ _ _ _ _ _ _ _ _ _ _ rfl rfl rfl rfl FIN.out.1 FIN.out.2.1 FIN.out.2.2.1 FIN.out.2.2.2.1) ⟨POST.out _, FIN.out.2.2.2.2⟩
  have hJ' : ¬ J ≤ ht := hJ
  by_cases hpos : 0 < ht
  rotate_left
  · obtain ⟨l, hl⟩ : ∃ l, l = fdL J (L) := ⟨_, rfl⟩
    have hl0 : l = [] := by rw [hl]; unfold fdL; rw [if_neg (by rw [← HHT.out]; exact hpos)]
    have HFE : Hid (fdE G S I J N L = if 2147483648 < hs + (0 : Int) + 1 then 90 else 0) := by
      show _ = _
      unfold fdE
      rw [if_neg (by rw [HMAY.out]; decide), if_neg (fun h => h HNN.out), if_neg (by rw [HRD.out, ← HHT.out]; rintro (h | h); cases h; exact hJ' h), ← hl, hl0, if_neg (by rintro h; cases h), ← HHS.out]; rfl
    have HTT : Hid (FdT w G S I J (some ⟨b, off, none⟩) N L hs ht p8 none 0 0 [] (w4.setCell ⟨w.heap.size + 1 + 1 + 1 + 1, 0, none⟩ (.int .i64 0))) := ⟨STE.out, HP5.out, TrM.nil _ _⟩
    have HLL : Hid (([] : List Tr) = fdL J L ∧ 0 = ([] : List Tr).length) := by rw [← hl, hl0]; exact ⟨rfl, rfl⟩
    clear hl0 hl STE HP5 HNN HMAY HRD
    have hc0 := HTT.out.p.cell (i := 0) (v := .int .u32 hs) rfl
    have hl5 := HTT.out.f.l.cell (i := 0) (v := .slice none 0 0) rfl
    by_cases hbig : 2147483648 < hs + (0 : Int) + 1
    · have STT := Lib.hid HTT.out.f
      have hh_ := STT.out.h
      have HE_ : Hid (fdE G S I J N L = 90) := by show _ = _; rw [HFE.out, if_pos hbig]
      go_wp2_with (first | (refine wp_storeAt rfl 83 (.tmp 4) (.tmp 74) rfl (w.heap.size + 1) #[.int .u32 0, .int .i64 0] _ rfl rfl hh_ (info_head 0 0) rfl (one_head _ _) ?_))
      intro wx hHx hox
      have stx := STT.out.head hTl HLB.out hHx hox
      have hd5 := stx.l.cell (i := 0) rfl
      have hd6 := stx.n.cell (i := 0) rfl
      have hd7 := stx.e.cell (i := 0) rfl
      have f5 : wx.frozen? ⟨w.heap.size + 1 + 1, 0, none⟩ = false := soft_of_heap stx.l 0
      have f6 : wx.frozen? ⟨w.heap.size + 1 + 1 + 1, 0, none⟩ = false := soft_of_heap stx.n 0
      have f7 : wx.frozen? ⟨w.heap.size + 1 + 1 + 1 + 1, 0, none⟩ = false := soft_of_heap stx.e 0
      have POST : Hid (∀ W', FdPost w G S I J N L (.returned (.tuple #[.agg #[.int .u32 0, .int .i64 0], .slice none 0 0, .int .u32 0, .int .i64 90])) W') := fun W' => .inl ⟨by rw [HE_.out]; decide, by rw [HE_.out]⟩
      have FIN := Lib.hid (stx.fin (.slice none 0 0) 0 90)
      clear hHx hox stx hh_
      go_wp2_with fail
      exact bodyPostM_early (results_fd rfl _ _ _ _ _ _ _ _ _ _ _ rfl rfl rfl rfl FIN.out.1 FIN.out.2.1 FIN.out.2.2.1 FIN.out.2.2.2.1) ⟨POST.out _, FIN.out.2.2.2.2⟩
    have HE0 : Hid (fdE G S I J N L = 0) := by show _ = _; rw [HFE.out, if_neg hbig]
    obtain ⟨X, hX⟩ : ∃ X, X = hs + (0 : Int) + 1 := ⟨_, rfl⟩
    have HX := Lib.hid hX
    have hX0 : 0 ≤ X ∧ X ≤ 2147483648 := by omega
    have hbig' : hs + (0 : Int) + 1 ≤ 2147483648 := by omega
    have HXB := Lib.hid hX0
    clear hbig hX hX0
    go_wp2_with fail
    obtain ⟨hX0, hX9⟩ := HXB.out
    have HT2 := Lib.hid (HTT.out.below (Below.refl _ _).drew)
    have HDD : Hid (w.heap.size + 1 + 1 + 1 + 1 < w.heap.size + 1 + 1 + 1 + 1 + 1) := by show _ < _; omega
    have HP8W := Lib.hid hp8w
    have HXW : Hid (hs + 1 = X) := by show _ = _; rw [HX.out]; simp
    have HCUT : Hid (∀ W, (Instr.sliceAt 84 (.slice none 0 0) none (some (.int .i64 (0 : Int))) (some (.int .i64 (0 : Int)))).run Tryz.prog W = .ok (.slice none 0 0) W) := fun W => (run_sliceAt_slice W 84 _ _ _ _ (by kernel_rfl)).trans (run_takeT none 0 0 0 (0 : Int) rfl (by first | omega | exact HNC.out) W)
    have hcv : ∀ W, (convert 156 45 (.int .u64 X)).run Tryz.prog W = .ok (.int .u32 X) W := fun W => by
      have : IntKind.u32.wrap X = X := IntWalk.u32_in _ (by omega)
      simp [go_sem, this]
    have HCV := Lib.hid hcv
    clear hcv HTT hc0 hl5
    refine wp_region_invA (FdI w p8 hs ht none 0 0 [] X (w.heap.size + 1 + 1 + 1 + 1 + 1) _) (by kernel_rfl) (by kernel_rfl) (fun _ _ _ _ he h => h.congr he) ⟨rfl, rfl, fun _ _ => rfl, (fun i hi h => by cases h), HT2.out.p, HT2.out.f.h, HT2.out.f.l, HT2.out.f.n, HT2.out.f.e, HT2.out.m, (fun h => by cases h), rfl, HT2.out.f.bel⟩ ⟨?_, ?_, ?_, ?_, ?_, ?_, ?_, ?_, ?_, ?_, ?_, ?_, ?_, trivial⟩ ?_
    · intro f a' w' hl hu h
      exact Tb.wpOp_of rfl rfl (op_ldrow 83 (.tmp 8) rfl p8 #[.int .u32 hs, .int .i64 ht] _ (h.other 8 (by omega)) h.p Tryz.underlying83 rfl (info_head hs ht) (h.quiet 0 (by omega) _ rfl))
    · intro f a' w' hl hu h
      have h10 : f 10 = false := by
        cases e : f 10 with
        | false => rfl
        | true => have := h.w10 e; rw [this.1] at hl; cases hl
      have hc := h.fl.cell (i := 0) (v := .slice none 0 0) (by rw [h10]; rfl)
      exact Tb.wpOp_of rfl rfl (op_ldc 84 (.tmp 5) rfl (w.heap.size + 1 + 1) 0 _ (h.other 5 (by omega)) hc (by kernel_rfl) (h.quiet 1 (by omega) _ rfl))
    · intro f a' w' hl hu h
      have h10 : f 10 = false := by
        cases e : f 10 with
        | false => rfl
        | true => have := h.w10 e; rw [this.2.1] at hl; cases hl
      have hc := h.fl.cell (i := 0) (v := .slice none 0 0) (by rw [h10]; rfl)
      exact Tb.wpOp_of rfl rfl (op_ldc 84 (.tmp 5) rfl (w.heap.size + 1 + 1) 0 _ (h.other 5 (by omega)) hc (by kernel_rfl) (h.quiet 2 (by omega) _ rfl))
    · intro f a' w' hl hu h
      have k2 := op_up hu 2 (by kernel_rfl)
      exact Tb.wpOp_of rfl rfl (op_len (.tmp 77) 84 rfl 154 Tryz.underlying84 none 0 0 (h.vals 2 (by omega) k2) (h.quiet 3 (by omega) _ rfl))
    · intro f a' w' hl hu h
      have h10 : f 10 = false := by
        cases e : f 10 with
        | false => rfl
        | true => have := h.w10 e; rw [this.2.2] at hl; cases hl
      have hc := h.fl.cell (i := 0) (v := .slice none 0 0) (by rw [h10]; rfl)
      exact Tb.wpOp_of rfl rfl (op_ldc 84 (.tmp 5) rfl (w.heap.size + 1 + 1) 0 _ (h.other 5 (by omega)) hc (by kernel_rfl) (h.quiet 4 (by omega) _ rfl))
    · intro f a' w' hl hu h
      have k4 := op_up hu 4 (by kernel_rfl)
      exact Tb.wpOp_of rfl rfl (op_len (.tmp 79) 84 rfl 154 Tryz.underlying84 none 0 0 (h.vals 4 (by omega) k4) (h.quiet 5 (by omega) _ rfl))
    · intro f a' w' hl hu h
      have k1 := h.vals 1 (by omega) (op_up hu 1 (by kernel_rfl))
      have k3 := h.vals 3 (by omega) (op_up hu 3 (by kernel_rfl))
      have k5 := h.vals 5 (by omega) (op_up hu 5 (by kernel_rfl))
      have e1 : a'.eval (.tmp 76) = .slice none 0 0 := k1
      have e3 : a'.eval (.tmp 78) = .int .i64 (0 : Int) := k3
      have e5 : a'.eval (.tmp 80) = .int .i64 (0 : Int) := k5
      have hcu := HCUT.out w'
      refine Tb.wpOp_of rfl rfl (op_val (v := .slice none 0 0) (w' := w') ?_ (h.quiet 6 (by omega) _ rfl))
      unfold execOp
      simp [e1, e3, e5, hcu]
    · intro f a' w' hl hu h
      exact Tb.wpOp_of rfl rfl (op_move (.tmp 10) rfl (.int .u64 X) ((h.other 10 (by omega)).trans (congrArg (Value.int IntKind.u64) HXW.out)) (h.quiet 7 (by omega) _ rfl))
    · intro f a' w' hl hu h
      have k7 := h.vals 7 (by omega) (op_up hu 7 (by kernel_rfl))
      have e7 : a'.eval (.tmp 82) = .int .u64 X := k7
      have hcv := HCV.out w'
      refine Tb.wpOp_of rfl rfl (op_val (v := .int .u32 X) (w' := w') ?_ (h.quiet 8 (by omega) _ rfl))
      unfold execOp
      simp [e7, hcv]
    · intro f a' w' hl hu h
      have k0 := h.vals 0 (by omega) (op_up hu 0 (by kernel_rfl))
      have hh9 := h.h
      rw [show f 9 = false from hl, if_neg (by decide)] at hh9
      exact Tb.wpOp_of rfl rfl (op_strow 83 (.tmp 4) (.tmp 75) rfl (w.heap.size + 1) #[.int .u32 hs, .int .i64 ht] _ (h.other 4 (by omega)) k0 hh9 (info_head hs ht) rfl (one_head _ _) (fun W' q1 q2 => h.st9 HP8W.out HDD.out q1 q2))
    · intro f a' w' hl hu h
      have k6 := h.vals 6 (by omega) (op_up hu 6 (by kernel_rfl))
      exact Tb.wpOp_of rfl rfl (op_stc 84 (.tmp 5) (.tmp 81) rfl (w.heap.size + 1 + 1) _ (.slice none 0 0) _ (h.other 5 (by omega)) k6 h.fl (fun W q1 q2 => stc_trs _ _ _ _ _ W q1 q2) (h.st10 (op_up hu 1 (by kernel_rfl)) (op_up hu 2 (by kernel_rfl)) (op_up hu 4 (by kernel_rfl)) HP8W.out HDD.out))
    · intro f a' w' hl hu h
      have k8 := h.vals 8 (by omega) (op_up hu 8 (by kernel_rfl))
      exact Tb.wpOp_of rfl rfl (op_stc 45 (.tmp 6) (.tmp 83) rfl (w.heap.size + 1 + 1 + 1) _ (.int .u32 X) _ (h.other 6 (by omega)) k8 h.fn (fun W q1 q2 => stc_u32 _ _ _ W q1 q2) (h.st11 HP8W.out HDD.out))
    · intro f a' w' hl hu h
      exact Tb.wpOp_of rfl rfl (op_stc 48 (.tmp 7) (.const (.int .i64 0)) rfl (w.heap.size + 1 + 1 + 1 + 1) _ (.int .i64 0) _ (h.other 7 (by omega)) rfl h.e (fun W q1 q2 => stc_err _ _ _ W q1 q2) (h.st12 HP8W.out HDD.out))
    intro af wf h
    have o4 := h.other 4 (by omega)
    have o5 := h.other 5 (by omega)
    have o6 := h.other 6 (by omega)
    have o7 := h.other 7 (by omega)
    have hdf := h.defers
    have HF := Lib.hid h
    clear h HT2 HCUT HCV
    have hh := HF.out.h
    rw [if_pos rfl] at hh
    have hl' := HF.out.fl.cell (i := 0) (v := .slice none 0 0) rfl
    have hn' := HF.out.fn.cell (i := 0) (v := .int .u32 X) rfl
    have he' := HF.out.e.cell (i := 0) (v := .int .i64 0) rfl
    have hrw := HF.out.m.q HLL.out.2
    have POST : Hid (∀ W', TrQ W' none [] → FdPost w G S I J N L (.returned (.tuple #[.agg #[.int .u32 hs, .int .i64 ht], .slice none 0 0, .int .u32 X, .int .i64 0])) W') := fun W' hr => .inr ⟨HE0.out, none, 0, by rw [HX.out, HHS.out, HHT.out, ← HLL.out.1]; first | rfl | rw [← HLL.out.2], by rw [← HLL.out.1]; exact hr⟩
    obtain ⟨tm, df⟩ := af
    obtain rfl : df = [] := hdf
    have HH := Lib.hid hh
    have HRW := Lib.hid hrw
    have HBL2 := Lib.hid HF.out.bel
    have HC3 : Hid (wf.cell? ⟨w.heap.size + 1 + 1, 0, none⟩ = some (.slice none 0 0) ∧ wf.cell? ⟨w.heap.size + 1 + 1 + 1, 0, none⟩ = some (.int .u32 X) ∧ wf.cell? ⟨w.heap.size + 1 + 1 + 1 + 1, 0, none⟩ = some (.int .i64 0)) := ⟨hl', hn', he'⟩
    clear HF hh hl' hn' he' hrw
    go_wp2_with fail
    exact bodyPostM_early (results_fd rfl tm wf _ _ _ _ hs ht _ X 0 o4 o5 o6 o7 HH.out HC3.out.1 HC3.out.2.1 HC3.out.2.2) ⟨POST.out _ HRW.out, HBL2.out⟩
  exact absurd hpos (by rw [HHT.out]; have := HZZ.out; omega)
end Go.Proofs.YtnbmmhoofilmfaaGreatDoor

/- scan.Find. Printed by gen_sc5.py out of XSc5.in. -/
namespace Go.Proofs.YtnbmmhoofilmfaaGreatDoor
open Go.RowKit
set_option linter.unusedVariables false
attribute [local go_sem] Oper.semAt_some

end Go.Proofs.YtnbmmhoofilmfaaGreatDoor

/- quernlaw18.lay: blocks are laid into a ring. -/
namespace Go.Proofs.YtnbmmhoofilmfaaGreatDoor
open Go.RowKit
set_option linter.unusedVariables false

end Go.Proofs.YtnbmmhoofilmfaaGreatDoor

/- quernlaw18.awake, plainly: two transactions in a ring of 39 blocks. -/
namespace Go.Proofs.YtnbmmhoofilmfaaGreatDoor
open Go.RowKit
set_option linter.unusedVariables false

theorem head_rd {s t : Int} (h : headOk s t = true) : headRd (headZ s t) = true ∧ hdS (headZ s t) = s ∧ hdT (headZ s t) = t := by
  have h' := h
  unfold headOk at h'
  rw [Bool.and_eq_true, decide_eq_true_eq] at h'
  obtain ⟨hs, ht⟩ := h'
  have hsb := seqB_bd hs
  have hz : headZ s t = wz (jw 4 s t nz) := by unfold headZ; rw [h]; rfl
  have e := wds_eq (jw_wds (by decide) (by omega) (by omega) nz_wds) hz
  have e0 : wd (headZ s t) 0 = 1280199249 := e 0
  have e1 : wd (headZ s t) 1 = 4 := e 1
  have e2 : wd (headZ s t) 2 = s := e 2
  have e3 : wd (headZ s t) 3 = t := e 3
  have hk : kindB (headZ s t) = true := by unfold kindB; rw [e0, e1, e2, hs]; rfl
  have hk4 : kindOf (headZ s t) = 4 := by unfold kindOf; rw [hk, e1]; rfl
  have hq : seqOf (headZ s t) = s := by unfold seqOf; rw [hk, e2]; rfl
  have hr : headRd (headZ s t) = true := by
    unfold headRd
    rw [hk4, e3, decide_eq_true ht.2]
    simp only [beq_self_eq_true, Bool.true_and]
    rw [allZ_iff]
    intro j _
    rw [e]
    unfold jw nz
    rw [if_neg (by omega), if_neg (by omega), if_neg (by omega), if_neg (by omega)]
  refine ⟨hr, ?_, ?_⟩
  · unfold hdS; rw [hr, if_pos rfl, hq]
  · unfold hdT; rw [hr, if_pos rfl, e3]
end Go.Proofs.YtnbmmhoofilmfaaGreatDoor
