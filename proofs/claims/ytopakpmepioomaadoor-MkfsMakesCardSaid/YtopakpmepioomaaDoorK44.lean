/- Texts of this claim, merged by a program (a claim may have 60 files): WMkM. -/
import Derived.Test.YtopakpmepioomaaDoorK41
import Derived.Test.YtopakpmepioomaaDoorK43
import Derived.Test.YtopakpmepioomaaDoorK02
/- MkfsMakes. -/
namespace Go.Proofs.YtopakpmepioomaaDoor
open Go.RowKit
set_option linter.unusedVariables false

/-- the image of any geometry: how many blocks, the error, the blocks -/
def miN (G S I J : Int) : Nat := if mayG G S I J = true then 2 + J.toNat + G.toNat * S.toNat else 0
def miE (G S I J : Int) : Int := if mayG G S I J = true then 0 else 50
def miB (G S I J : Int) (b : Nat) : Nat → Int := mkB G.toNat S.toNat I.toNat J.toNat b
def MiPost (G S I J : Int) (w : World) (e : Ending) (w' : World) : Prop :=
  ∃ la c, e = .returned (.tuple #[.slice la (miN G S I J) c, .int .i64 (miE G S I J)]) ∧ RMine w' w.heap.size 32 256 (.slice la (miN G S I J) c) (miN G S I J) (bkF (miB G S I J)) ∧ Below w.heap.size w w'
theorem mi_img {w : World} {g s i j q : Nat} {w' : World} (hm : mayG g s i j = true) (h : MkImg w g s i j q w') : MiPost g s i j w (.returned (.tuple #[.slice (some ⟨q, 0, none⟩) (2 + j + g * s) (2 + j + g * s), .int .i64 0])) w' := by
  have hn : miN g s i j = 2 + j + g * s := by unfold miN; rw [if_pos hm]; simp
  have he : miE g s i j = 0 := by unfold miE; rw [if_pos hm]
  obtain ⟨h1, h2, h3, h4, h5, h6, h7, h8, h9, h10, h11⟩ := mayN hm
  unfold MiPost
  rw [hn, he]
  refine ⟨_, _, rfl, RArr.mine (h.a.congr fun b _ => ?_) (bkF_len _) h.le (by unfold maxLen; omega), h.bel⟩
  unfold bkF miB; simp
theorem mi_make (G S I J : Int) (w : World) (hT : Tab w) : Calls Tryd.prog 9 #[gval G S I J] w fun e w' => MiPost G S I J w e w' := by
  cases hm : mayG G S I J with
  | false =>
    refine (make_no G S I J hm w).mono ?_
    rintro e w2 ⟨rfl, hb2⟩
    unfold MiPost
    have hn : miN G S I J = 0 := by unfold miN; rw [hm]; rfl
    have he : miE G S I J = 50 := by unfold miE; rw [hm]; rfl
    rw [hn, he]
    exact ⟨_, _, rfl, RMine.nil _ _ _ _ _, hb2⟩
  | true =>
    obtain ⟨h1, h2, h3, h4, h5, h6, h7, h8, h9, h10, h11⟩ := (mayG_iff G S I J).1 hm
    obtain ⟨g, rfl⟩ : ∃ g : Nat, G = (g : Int) := ⟨G.toNat, by omega⟩
    obtain ⟨s, rfl⟩ : ∃ s : Nat, S = (s : Int) := ⟨S.toNat, by omega⟩
    obtain ⟨i, rfl⟩ : ∃ i : Nat, I = (i : Int) := ⟨I.toNat, by omega⟩
    obtain ⟨j, rfl⟩ : ∃ j : Nat, J = (j : Int) := ⟨J.toNat, by omega⟩
    refine (make_yes g s i j hm w hT).mono ?_
    rintro e w2 ⟨q, rfl, hi⟩
    exact mi_img hm hi
theorem mi_ref (G S I J : Int) (w : World) : Calls Tryd.prog 8 #[gval G S I J] w fun e w' => MiPost G S I J w e w' := by
  cases hm : mayG G S I J with
  | false =>
    refine (rmake_no G S I J hm w).mono ?_
    rintro e w2 ⟨rfl, hb2⟩
    unfold MiPost
    have hn : miN G S I J = 0 := by unfold miN; rw [hm]; rfl
    have he : miE G S I J = 50 := by unfold miE; rw [hm]; rfl
    rw [hn, he]
    exact ⟨_, _, rfl, RMine.nil _ _ _ _ _, hb2⟩
  | true =>
    obtain ⟨h1, h2, h3, h4, h5, h6, h7, h8, h9, h10, h11⟩ := (mayG_iff G S I J).1 hm
    obtain ⟨g, rfl⟩ : ∃ g : Nat, G = (g : Int) := ⟨G.toNat, by omega⟩
    obtain ⟨s, rfl⟩ : ∃ s : Nat, S = (s : Int) := ⟨S.toNat, by omega⟩
    obtain ⟨i, rfl⟩ : ∃ i : Nat, I = (i : Int) := ⟨I.toNat, by omega⟩
    obtain ⟨j, rfl⟩ : ∃ j : Nat, J = (j : Int) := ⟨J.toNat, by omega⟩
    refine (rmake_yes g s i j hm w).mono ?_
    rintro e w2 ⟨q, rfl, hi⟩
    exact mi_img hm hi
/-- a byte of a row of blocks is turned -/
def turnM (L : Nat → Nat → Int) (k i : Nat) (v : Int) (j : Nat) : Nat → Int := if j = k then (fun x => if x = i then v else L j x) else L j
theorem Cs_turnM (L : Nat → Nat → Int) (k i : Nat) (v : Int) (hi : i < 256) : ∀ n, k < n → (Cs (bkF L) n).set (k * 256 + i) (.int .u8 v) = Cs (bkF (turnM L k i v)) n := by
  intro n hk
  apply List.ext_getElem?
  intro j
  have e1 : (Cs (bkF L) n).length = n * 256 := Cs_length (bkF_len _) _
  have e2 : (Cs (bkF (turnM L k i v)) n).length = n * 256 := Cs_length (bkF_len _) _
  by_cases hj : j < n * 256
  · have hq : j / 256 < n := by omega
    have hr : j % 256 < 256 := Nat.mod_lt _ (by omega)
    have hjj : j = j / 256 * 256 + j % 256 := by omega
    have g1 : (Cs (bkF (turnM L k i v)) n)[j]? = some (.int .u8 (turnM L k i v (j / 256) (j % 256))) := by
      rw [hjj, Cs_get (bkF_len _) hq hr]
      rw [show j / 256 * 256 + j % 256 = j from hjj.symm]
      exact Ks_get .u8 256 _ _ hr
    have g2 : (Cs (bkF L) n)[j]? = some (.int .u8 (L (j / 256) (j % 256))) := by
      rw [hjj, Cs_get (bkF_len _) hq hr]
      rw [show j / 256 * 256 + j % 256 = j from hjj.symm]
      exact Ks_get .u8 256 _ _ hr
    rw [g1, List.getElem?_set]
    unfold turnM
    by_cases he : k * 256 + i = j
    · rw [if_pos he, if_pos (by rw [e1]; omega), if_pos (by omega), if_pos (by omega)]
    · rw [if_neg he, g2]
      by_cases hk2 : j / 256 = k
      · rw [if_pos hk2, if_neg (by omega)]
      · rw [if_neg hk2]
  · rw [List.getElem?_eq_none (by rw [List.length_set, e1]; omega), List.getElem?_eq_none (by rw [e2]; omega)]
theorem RMine.turnAt {W : World} {base g n cap : Nat} {L : Nat → Nat → Int} (h : RMine W base 32 256 (.slice (some ⟨g, 0, none⟩) n cap) n (bkF L)) {k i : Nat} (hk : k < n) (hi : i < 256) (v : Int) :
    RMine (W.setCell ⟨g, k * 256 + i, none⟩ (.int .u8 v)) base 32 256 (.slice (some ⟨g, 0, none⟩) n cap) n (bkF (turnM L k i v)) := by
  have := (World.ownsRow.stored h (k * 256 + i) (.int .u8 v)).1
  rw [Cs_turnM L k i v hi n hk] at this
  exact this
theorem turnM_byt {L : Nat → Nat → Int} (h : ∀ k, Byt (L k)) (k i : Nat) {v : Int} (hv : 0 ≤ v ∧ v < 256) (j : Nat) : Byt (turnM L k i v j) := by
  unfold turnM
  split
  · intro x
    show 0 ≤ (if x = i then v else L j x) ∧ (if x = i then v else L j x) < 256
    split
    · exact hv
    · exact h j x
  · exact h j
theorem sameB_selfM (L : Nat → Nat → Int) (n : Nat) : sameB L L n n = true := by
  unfold sameB; rw [beq_self_eq_true, Bool.true_and]; exact (eqBs_iff _ _ _).2 fun i _ j _ => rfl
theorem miN_le (G S I J : Int) : miN G S I J ≤ 2048 := by
  unfold miN
  cases hm : mayG G S I J with
  | false => simp
  | true =>
    obtain ⟨h1, h2, h3, h4, h5, h6, h7, h8, h9, h10, h11⟩ := (mayG_iff G S I J).1 hm
    obtain ⟨g, rfl⟩ : ∃ g : Nat, G = (g : Int) := ⟨G.toNat, by omega⟩
    obtain ⟨s, rfl⟩ : ∃ s : Nat, S = (s : Int) := ⟨S.toNat, by omega⟩
    obtain ⟨i, rfl⟩ : ∃ i : Nat, I = (i : Int) := ⟨I.toNat, by omega⟩
    obtain ⟨j, rfl⟩ : ∃ j : Nat, J = (j : Int) := ⟨J.toNat, by omega⟩
    obtain ⟨g1, g2, g3, g4, g5, g6, g7, g8, g9, g10, g11⟩ := mayN hm
    rw [if_pos rfl]; simp; omega
/-- what stands while images are made -/
structure MiS (w : World) (G S I J : Int) (la : Option Addr) (N c : Nat) (B : Nat → Nat → Int) (W : World) : Prop where
  x : At W w.heap.size 23 (gcells G S I J)
  l : RMine W w.heap.size 32 256 (.slice la N c) N (bkF B)
  ta : Tab W
  bel : Below w.heap.size w W
theorem MiS.below {w : World} {G S I J : Int} {la : Option Addr} {N c : Nat} {B : Nat → Nat → Int} {W W' : World} (h : MiS w G S I J la N c B W) (hb : Below W.heap.size W W') : MiS w G S I J la N c B W' :=
  ⟨h.x.below hb h.x.lt, RMine.below h.l hb, h.ta.below hb (Nat.le_refl _), h.bel.trans (hb.mono h.bel.size)⟩
/-- while a made one's bytes are turned -/
structure MiT (B0 : Nat) (w0 : World) (la : Option Addr) (N c : Nat) (L : Nat → Nat → Int) (W : World) : Prop where
  l : RMine W B0 32 256 (.slice la N c) N (bkF L)
  byt : ∀ k, Byt (L k)
  bel : Below B0 w0 W

set_option maxRecDepth 100000 in
set_option maxHeartbeats 8000000 in
theorem mkfsMakes_walk (G S I J : Int) (w : World) (hT : Tab w) :
    Calls Tryd.prog 3 #[gval G S I J] w fun e w' => e = .returned (.bool true) ∧ Below w.heap.size w w' := by
  have hs0 := At.new w 23 (gcells G S I J)
  have HL0 : Hid (Below w.heap.size w (w.alloc (.cells (gcells G S I J) 23))) := (Below.refl _ _).alloc (Nat.le_refl _) _
  have HT0 := Lib.hid (hT.alloc (.cells (gcells G S I J) 23))
  clear hT
  go_enter Tryd.func3, Tryd.ntmps3
  go_wp2_with (first | (refine wp_loadAtG rfl 23 (.tmp 1) rfl _ _ _ rfl hs0 Tryd.underlying23 rfl (by kernel_rfl) ?_))
  refine (mi_ref G S I J _).mono ?_
  rintro e w1 ⟨wa, wc, rfl, hl1, hb1⟩
  have hN48 := miN_le G S I J
  obtain ⟨N, hN⟩ : ∃ N, N = miN G S I J := ⟨_, rfl⟩
  obtain ⟨E, hE⟩ : ∃ E, E = miE G S I J := ⟨_, rfl⟩
  rw [← hN] at hl1 hN48
  rw [← hN, ← hE]
  have HN := Lib.hid hN
  have HE := Lib.hid hE
  have qE : (E != E) = false := by simp
  have ST1 : Hid (MiS w G S I J wa N wc (miB G S I J) w1) := ⟨hs0.below hb1 hs0.lt, RMine.low hl1 (by simp), HT0.out.below hb1 (Nat.le_refl _), HL0.out.trans (hb1.mono HL0.out.size)⟩
  clear hs0 HL0 HT0 hl1 hb1 hN hE
  go_wp2_with fail
  go_loopw [5, 6, 7, 8] (fun u _ _ _ wr => ∃ k : Nat, u = .int .i64 (k : Int) ∧ k ≤ 2 ∧ MiS w G S I J wa N wc (miB G S I J) wr) (fun u _ _ _ _ => 2 - (intOf u).toNat)
  case atStart => exact ⟨0, rfl, Nat.zero_le _, ST1.out⟩
  case round =>
    clear ST1
    obtain ⟨k, rfl, hk, st⟩ := hrel
    have ST := Lib.hid st
    clear st
    by_cases hk2 : k < 2
    · have hk2' : (k : Int) < 2 := by omega
      have hx := ST.out.x
      go_wp2_with (first | (refine wp_loadAtG rfl 23 (.tmp 1) rfl _ _ _ rfl hx Tryd.underlying23 rfl (by kernel_rfl) ?_))
      refine (mi_make G S I J wr ST.out.ta).mono ?_
      rintro e w8 ⟨l8, c8, rfl, hl8, hb8⟩
      rw [← HN.out] at hl8
      rw [← HN.out, ← HE.out]
      have HLW8 := Lib.hid (RMine.below ST.out.l hb8)
      have HB8 := Lib.hid hb8
      have HL8 := Lib.hid hl8
      clear hb8 hl8 hx
      go_wp2_with fail
      refine (sameBlocks_any l8 wa N N c8 wc (miB G S I J) (miB G S I J) (by omega) (by omega) w8 (RMine.row HL8.out (bkF_len _)) (RMine.row HLW8.out (bkF_len _))).mono ?_
      rintro e w9 ⟨rfl, d, hd⟩
      rw [sameB_selfM]
      have HT9 : Hid (MiT wr.heap.size wr l8 N c8 (miB G S I J) w9) := by
        rw [hd]; have h := HB8.out
        exact ⟨HL8.out, fun k => mkB_byt _ _ _ _ k, ⟨h.os, h.tape, h.output, h.size, h.block⟩⟩
      clear hd HLW8 HL8 HB8
      go_wp2_with fail
      obtain ⟨wr0, e0⟩ : ∃ x : World, x = wr := ⟨wr, rfl⟩
      subst e0
      obtain ⟨B0, hB0⟩ : ∃ B0, B0 = wr0.heap.size := ⟨_, rfl⟩
      rw [← hB0] at HT9
      have HB0 := Lib.hid hB0
      clear hB0
      go_loopw [8] (fun u wq => ∃ (i : Nat) (L : Nat → Nat → Int), u = .int .i64 (i : Int) ∧ i ≤ N ∧ MiT B0 wr0 l8 N c8 L wq) (fun u _ => N - (intOf u).toNat)
      case atStart => exact ⟨0, miB G S I J, rfl, Nat.zero_le _, HT9.out⟩
      case round =>
        clear HT9
        obtain ⟨i, L, rfl, hi, sq⟩ := hrel
        by_cases hlt : i < N
        · have hi' : (i : Int) < (N : Int) := by omega
          have i0 : (0 : Int) ≤ (i : Int) := by omega
          obtain ⟨g, cp, hv, hg1, hg2, hg3, hg4⟩ := sq.l.form' (by omega)
          injection hv with hv1 hv2 hv3
          subst hv1 hv3
          have hb7 := sq.byt i 7
          have SQ := Lib.hid sq
          clear sq
          go_wp2_with fail
          refine wp_region_bar2 (MiT B0 wr0 (some ⟨g, 0, none⟩) N c8 L) 8 (by kernel_rfl) (by kernel_rfl) (by kernel_rfl) (by kernel_rfl) (by kernel_rfl) (by decide) ⟨SQ.out.l, SQ.out.byt, SQ.out.bel.drew⟩ ?_
          simp only [List.take_succ_cons, List.take_zero, List.drop_succ_cons, List.drop_zero]
          clear SQ
          intro hne
          have d3 : ∀ y : InW (MiT B0 wr0 (some ⟨g, 0, none⟩) N c8 L), y.W.cell? ⟨g, i * 256 + 7, none⟩ = some (.int .u8 (L i 7)) := fun y => by
            have := RMine.seg y.h.l (bkF_len _) i hlt 7 _ (Ks_get .u8 256 (L i) 7 (by omega))
            rwa [Nat.zero_add] at this
          repeat (first | go_big_quiet_skip | (go_big_quiet_want; go_big_quiet_op; go_big_quiet_on))
          refine wpQuiet_nil ?_
          intro w5 h5
          have st5 := h5.out
          have c9 : w5.cell? ⟨g, i * 256 + 7, none⟩ = some (.int .u8 (L i 7)) := d3 ⟨w5, st5⟩
          have f9 : w5.frozen? ⟨g, i * 256 + 7, none⟩ = false := World.ownsRow.frozenAt st5.l (i * 256 + 7)
          have st6 : Hid (MiT B0 wr0 (some ⟨g, 0, none⟩) N c8 (turnM L i 7 ((L i 7 + 1) % 256)) (w5.setCell ⟨g, i * 256 + 7, none⟩ (.int .u8 ((L i 7 + 1) % 256)))) :=
            ⟨RMine.turnAt st5.l hlt (by omega) _, turnM_byt st5.byt i 7 ⟨by omega, by omega⟩, st5.bel.trans ((Only.setCell w5 ⟨g, i * 256 + 7, none⟩ (.int .u8 ((L i 7 + 1) % 256))).below (by show _ ≤ g; omega))⟩
          clear st5 h5 hne d3
          go_wp2_with fail
          go_roundw
          case rel => first | exact ⟨i + 1, _, by first | rfl | go_num, by omega, st6.out⟩ | ((repeat apply Exists.intro); exact ⟨⟨i + 1, _, by first | rfl | go_num, by omega, st6.out⟩, rfl⟩)
          case measure => simp [intOf]; omega
        · obtain rfl : i = N := by omega
          have STQ := Lib.hid (ST.out.below (HB0.out ▸ sq.bel))
          clear sq ST
          go_wp2_with fail
          go_roundw
          case rel => first | exact ⟨k + 1, by first | rfl | go_num, by omega, STQ.out⟩ | ((repeat apply Exists.intro); exact ⟨⟨k + 1, by first | rfl | go_num, by omega, STQ.out⟩, rfl⟩)
          case measure => simp [intOf]; omega
    · obtain rfl : k = 2 := by omega
      go_wp2_with fail
      go_ret
      exact ⟨rfl, ST.out.bel⟩
end Go.Proofs.YtopakpmepioomaaDoor
