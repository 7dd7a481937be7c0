/- PackRead. -/
import Derived.Test.YthkalmdpbhjafaaDoorMg2
import Derived.Test.YthkalmdpbhjafaaDoorMg2
import Derived.Test.YthkalmdpbhjafaaDoorWPs
namespace Go.Proofs.YthkalmdpbhjafaaDoor
open Go.RowKit
set_option linter.unusedVariables false

theorem build_trans0 (w : World) : (Instr.build 28 #[]).run Tryd.prog w = .ok (.agg (tcells 0 none 0 0 none 0 0)) w := by kernel_rfl
/-- blocks stand -/
structure PrW (w : World) (la : Option Addr) (N lc : Nat) (L : Nat → Nat → Int) (W : World) : Prop where
  l : RMine W (w.heap.size + 1) 40 256 (.slice la N lc) N (bkF L)
  ta : Tab W
  bel : Below w.heap.size w W
theorem PrW.below {w : World} {la : Option Addr} {N lc : Nat} {L : Nat → Nat → Int} {W W' : World} (h : PrW w la N lc L W) (hb : Below W.heap.size W W') : PrW w la N lc L W' :=
  ⟨RMine.below h.l hb, h.ta.below hb (Nat.le_refl _), h.bel.trans (hb.mono h.bel.size)⟩

set_option maxRecDepth 100000 in
set_option maxHeartbeats 8000000 in
theorem packRead_walk (s : Int) (hs : 0 ≤ s ∧ s < 4294967296) (la : Option Addr) (n lcap : Nat) (rb rf : Nat → Int) (rm : Nat → Bool) (c : Option Addr) (m cap : Nat) (rv : Nat → Int) (hi : In15 n rb rf m cap rv c) (xa : Option Addr) (nx xc : Nat) (xb xt xo : Nat → Int) (hxb : ∀ i, -9223372036854775808 ≤ xb i ∧ xb i ≤ 9223372036854775807) (hxt : ∀ i, -9223372036854775808 ≤ xt i ∧ xt i ≤ 9223372036854775807) (hxo : ∀ i, 0 ≤ xo i ∧ xo i < 256)
    (less : Int) (hle : -9223372036854775808 ≤ less ∧ less ≤ 9223372036854775807) (lb : Option Addr) (n3 bcap : Nat) (rb3 rf3 : Nat → Int) (rm3 : Nat → Bool) (hf3 : ∀ i, 0 ≤ rf3 i ∧ rf3 i < 256) (hn3 : (n3 : Int) ≤ 9223372036854775807) (w : World) (hT : Tab w)
    (hl : RRow w la 3 n (rwF rb rf rm)) (hr : RRow w c 1 m (inF rv)) (hla : ∀ b off, la = some ⟨b, off, none⟩ → 0 < n → b < w.heap.size) (hx : RRow w xa 3 nx (chF xb xt xo)) (hxa : ∀ b off, xa = some ⟨b, off, none⟩ → 0 < nx → b < w.heap.size) (hb : RRow w lb 3 n3 (rwF rb3 rf3 rm3)) (hlb : ∀ b off, lb = some ⟨b, off, none⟩ → 0 < n3 → b < w.heap.size) :
    Calls Tryd.prog 7 #[.int .u32 s, .slice la n lcap, .slice c m cap, .slice xa nx xc, .int .i64 less, .slice lb n3 bcap] w fun e w' => e = .returned (.bool true) ∧ Below w.heap.size w w' := by
  have halt := zero_trans
  have hbt := build_trans0
  have hTl := hT.lt
  have HI := Lib.hid hi
  have HLA : Hid (∀ b off, la = some ⟨b, off, none⟩ → 0 < n → b < w.heap.size) := hla
  have HXA : Hid (∀ b off, xa = some ⟨b, off, none⟩ → 0 < nx → b < w.heap.size) := hxa
  have HLB : Hid (∀ b off, lb = some ⟨b, off, none⟩ → 0 < n3 → b < w.heap.size) := hlb
  have HL := Lib.hid hl
  have HR := Lib.hid hr
  have HX := Lib.hid hx
  have HB := Lib.hid hb
  have HT := Lib.hid hT
  have HF3 := Lib.hid hf3
  have HXB := Lib.hid hxb
  have HXT := Lib.hid hxt
  have HXO := Lib.hid hxo
  have HLE := Lib.hid hle
  clear hl hr hla hi hT hb hlb hx hxa hf3 hxb hxt hxo hle
  go_enter Tryd.func7, Tryd.ntmps7
  go_wp2_with fail
  refine (awake15 w HT.out).mono ?_
  rintro e w1 ⟨rfl, hb1⟩
  have hs1 := hb1.size
  go_wp2_with fail
  refine (great_any la c n m lcap cap w1).mono ?_
  rintro e w2 ⟨rfl, hw2⟩
  obtain rfl : w1 = w2 := hw2.symm
  clear hw2
  cases hg : greatB n m with
  | true =>
    clear hg
    go_wp2_with fail
    go_ret
    exact ⟨rfl, hb1⟩
  | false =>
    have hnm : n ≤ 400 ∧ m ≤ 3000 := by
      unfold greatB at hg
      rw [Bool.or_eq_false_iff, decide_eq_false_iff_not, decide_eq_false_iff_not] at hg
      omega
    obtain ⟨hn, hm⟩ := hnm
    clear hg
    by_cases hx100 : 100 < nx
    · have hx1 : (100 : Int) < (nx : Int) := by omega
      go_wp2_with fail
      go_ret
      exact ⟨rfl, hb1⟩
    have hx1 : ¬ (100 : Int) < (nx : Int) := by omega
    have HL1 := Lib.hid (HL.out.below (by intro e; cases e) hb1)
    have HR1 := Lib.hid (HR.out.below (by intro e; cases e) hb1)
    have HX1 := Lib.hid (HX.out.below (by intro e; cases e) hb1)
    have HB1 := Lib.hid (HB.out.below (by intro e; cases e) hb1)
    have HT1 := Lib.hid (HT.out.below hb1 (Nat.le_refl _))
    have HW1 := Lib.hid hb1
    clear HL HR HT HB HX hb1
    go_wp2_with fail
    refine (trans15_any s hs la n lcap rb rf rm HI.out.f c m cap rv hn hm HI.out.no w1 HL1.out HR1.out (fun b off e h0 => by have := HLA.out b off e h0; omega)).mono ?_
    rintro e w3 ⟨ca, cc, ra, rc, rfl, hC, hR, hb3⟩
    have HT3 := Lib.hid (HT1.out.below hb3 (Nat.le_refl _))
    have HX3 := Lib.hid (HX1.out.below (by intro e; cases e) hb3)
    have HB3 := Lib.hid (HB1.out.below (by intro e; cases e) hb3)
    have HW3 := Lib.hid (HW1.out.trans (hb3.mono hs1))
    have hs3 := hb3.size
    have HC3 := Lib.hid hC
    have HR3 := Lib.hid hR
    clear hC hR hb3 HT1 HX1 HB1 HL1 HR1 HW1
    go_wp2_with fail
    have hOk := trT_ok (n := n) (m := m) (rm := rm) hs HI.out.b HI.out.f HI.out.v hn hm
    have hC' := RMine.congr HC3.out (g := cpF (trT s n rb rf rm m rv).cb (trT s n rb rf rm m rv).cd) fun i hi => trT_c i hi
    have hR' := RMine.congr HR3.out (g := inF (trT s n rb rf rm m rv).rv) fun i hi => trT_v i hi
    have hbl := blocks_any (trT s n rb rf rm m rv) hOk ca cc ra rc xa nx xc xb xt xo HXB.out HXT.out HXO.out (by omega) less HLE.out lb n3 bcap rb3 rf3 rm3 HF3.out hn3 w3 (RMine.row hC' (cpF_len _ _)) (RMine.row hR' (inF_len _))
      (fun b off e => (World.ownsRow.lt hC' b (by rw [e]; rfl)).2) (fun b off e => (World.ownsRow.lt hR' b (by rw [e]; rfl)).2) HX3.out (fun b off e h0 => by have := HXA.out b off e h0; omega) HB3.out (fun b off e h0 => by have := HLB.out b off e h0; omega)
    refine hbl.mono ?_
    rintro e w4 ⟨l4, N, lc, L, rfl, hN, hLb, hl4, hb4⟩
    have st4 : Hid (PrW w l4 N lc L w4) := ⟨RMine.low hl4 (by omega), HT3.out.below hb4 (Nat.le_refl _), HW3.out.trans (hb4.mono HW3.out.size)⟩
    have HLb := Lib.hid hLb
    have hcap := rcap hl4
    have hmx2 : (lc : Int) ≤ 9223372036854775807 := by
      rcases hl4.2 with ⟨hv, _⟩ | ⟨g, cp, cur, hv, _, _, _, hc, _⟩
      · injection hv with e1 e2 e3; omega
      · injection hv with e1 e2 e3
        have hmx : maxLen = 9223372036854775807 := rfl
        omega
    clear hOk hC' hR' hbl hLb hl4 hb4 HT3 HX3 HB3 HW3 HC3 HR3
    go_wp2_with fail
    refine (unpack_any l4 N lc L HLb.out s hs hcap hmx2 w4 st4.out.ta (RMine.row st4.out.l (bkF_len _)) (fun b off e => (World.ownsRow.lt st4.out.l b (by rw [e]; rfl)).2)).mono ?_
    rintro e w5 ⟨hp, hb5⟩
    have st5 := Lib.hid (st4.out.below hb5)
    have hs5 := hb5.size
    have hP5 := At.new w5 28 (tcells 0 none 0 0 none 0 0)
    have hL5 : Below w5.heap.size w5 (w5.alloc (.cells (tcells 0 none 0 0 none 0 0) 28)) := (Below.refl _ _).alloc (Nat.le_refl _) _
    rcases hp with ⟨_, rfl⟩ | ⟨t, u, ca2, cc2, ra2, rc2, h, rfl, hC, hR⟩
    · clear hb5 st4
      go_wp2_with (first | (refine wp_storeAt rfl 28 (.tmp 14) (.tmp 44) rfl w5.heap.size (tcells 0 none 0 0 none 0 0) _ rfl rfl hP5 (info_trans 0 none 0 0 none 0 0) rfl (by kernel_rfl) ?_))
      intro w6 hP6 ho6
      have HL6 := Lib.hid (st5.out.bel.trans ((hL5.trans (ho6.below (Nat.le_refl _))).mono st5.out.bel.size))
      clear hP5 hL5 ho6 st5
      go_wp2_with (first | (refine wp_loadAtG rfl 28 (.tmp 14) rfl _ _ _ rfl hP6 Tryd.underlying28 rfl (info_trans _ _ _ _ _ _ _) ?_))
      refine (same15_any 0 0 0 (fun _ => 0) (fun _ _ => 0) (fun _ => 0) none 0 none 0 none 0 none 0 (by omega) (by omega) w6 (.inl rfl) (.inl rfl) (.inl rfl) (.inl rfl)).mono ?_
      rintro e w7 ⟨rfl, hb7⟩
      have HL7 := Lib.hid (HL6.out.trans (hb7.mono HL6.out.size))
      clear hb7 hP6 HL6
      go_wp2_with fail
      go_ret
      exact ⟨rfl, HL7.out⟩
    · have hU := unp_some HLb.out hs h
      have HU := Lib.hid hU
      have HC5 := Lib.hid hC
      have HR5 := Lib.hid hR
      have hu2 : 2 ≤ u := by have h1 := hU.ue; have h2 := hU.c; omega
      have huN := hU.le
      have htn := hU.n
      have htm := hU.m
      clear hC hR h hU hb5 st4
      go_wp2_with (first | (refine wp_storeAt rfl 28 (.tmp 14) (.tmp 44) rfl w5.heap.size (tcells s ca2 t.n cc2 ra2 t.m rc2) _ rfl rfl hP5 (info_trans 0 none 0 0 none 0 0) rfl (by kernel_rfl) ?_))
      intro w6 hP6 ho6
      have hL6 := hL5.trans (ho6.below (Nat.le_refl _))
      have st6 := Lib.hid (st5.out.below hL6)
      have HC6 := Lib.hid (RMine.below HC5.out hL6)
      have HR6 := Lib.hid (RMine.below HR5.out hL6)
      have hs6 := hL6.size
      have c6 := hP6.cell (i := 0) (v := .int .u32 s) rfl
      have hsl := fun W => run_takeB l4 N lc u (u : Int) rfl (by omega) W
      have g2 : ¬ (u : Int) < 2 := by omega
      have g3 : ¬ (N : Int) < (u : Int) := by omega
      have qs : (s != s) = false := by simp
      clear hP5 hL5 ho6 st5 HC5 HR5 hL6
      go_wp2_with (first | (refine wp_loadAtG rfl 28 (.tmp 14) rfl _ _ _ rfl hP6 Tryd.underlying28 rfl (info_trans _ _ _ _ _ _ _) ?_))
      have hpk := pack_any t HU.out.ok ca2 cc2 ra2 rc2 w6 st6.out.ta (RMine.row HC6.out (cpF_len _ _)) (RMine.row HR6.out (inF_len _)) (fun b off e => (World.ownsRow.lt HC6.out b (by rw [e]; rfl)).2) (fun b off e => (World.ownsRow.lt HR6.out b (by rw [e]; rfl)).2) (rcap HC6.out) (rcap HR6.out)
      rw [HU.out.sq] at hpk
      refine hpk.mono ?_
      rintro e w7 ⟨hp, hb7⟩
      rcases hp with ⟨hE, _⟩ | ⟨_, q, rfl, hq, hq7⟩
      · exact absurd HU.out.e hE
      have st7 := Lib.hid (st6.out.below hb7)
      have HC7 := Lib.hid (RMine.below HC6.out hb7)
      have HR7 := Lib.hid (RMine.below HR6.out hb7)
      have HQ7 := Lib.hid hq7
      have hlt6 := hP6.lt
      have hP7 := hP6.below hb7 hlt6
      have hs7 := hb7.size
      clear hpk hb7 hq7 st6 HC6 HR6 hP6 c6 g2 g3 qs
      go_wp2_with fail
      have hrow := HU.out.row ((RMine.row st7.out.l (bkF_len _)).take u huN)
      refine (unpack_any l4 u lc (pkB t) (pkB_byt t HU.out.ok) s hs (by omega) hmx2 w7 st7.out.ta hrow (fun b off e => (World.ownsRow.lt st7.out.l b (by rw [e]; rfl)).2)).mono ?_
      rintro e w8 ⟨hp, hb8⟩
      rcases hp with ⟨hn0, _⟩ | ⟨t', u', ca3, cc3, ra3, rc3, h, rfl, hC, hR⟩
      · rw [HU.out.again] at hn0; cases hn0
      rw [HU.out.again] at h
      injection h with h
      injection h with e1 e2
      subst e1 e2
      have st8 := Lib.hid (st7.out.below hb8)
      have HC8 := Lib.hid (RMine.below HC7.out hb8)
      have HR8 := Lib.hid (RMine.below HR7.out hb8)
      have HD8 := Lib.hid hC
      have HE8 := Lib.hid hR
      have HQ8 := Lib.hid (HQ7.out.below hb8)
      have hP8 := hP7.below hb8 hP7.lt
      have hs8 := hb8.size
      have hlt8 := hP8.lt
      have hN8 := At.new w8 28 (tcells 0 none 0 0 none 0 0)
      have hL8 : Below w8.heap.size w8 (w8.alloc (.cells (tcells 0 none 0 0 none 0 0) 28)) := (Below.refl _ _).alloc (Nat.le_refl _) _
      clear hC hR hb8 st7 HC7 HR7 HQ7 hP7 hrow
      go_wp2_with (first | (refine wp_storeAt rfl 28 (.tmp 19) (.tmp 81) rfl w8.heap.size (tcells s ca3 t.n cc3 ra3 t.m rc3) _ rfl rfl hN8 (info_trans 0 none 0 0 none 0 0) rfl (by kernel_rfl) ?_))
      intro w9 hN9 ho9
      have hL9 := hL8.trans (ho9.below (Nat.le_refl _))
      have st9 := Lib.hid (st8.out.below hL9)
      have HC9 := Lib.hid (RMine.below HC8.out hL9)
      have HR9 := Lib.hid (RMine.below HR8.out hL9)
      have HD9 := Lib.hid (RMine.below HD8.out hL9)
      have HE9 := Lib.hid (RMine.below HE8.out hL9)
      have HQ9 := Lib.hid (HQ8.out.below hL9)
      have hP9 := hP8.below hL9 hlt8
      clear hL8 hL9 ho9 st8 HC8 HR8 HD8 HE8 HQ8 hP8 hN8
      go_wp2_with fail
      refine (sameBlocks_any (some ⟨q, 0, none⟩) l4 (t.c + 1) u (t.c + 1) lc (pkB t) L (by have := HU.out.ue; omega) (by omega) w9 (.inr ⟨q, 0, rfl, HQ9.out.seg⟩) ((RMine.row st9.out.l (bkF_len _)).take u huN)).mono ?_
      rintro e w10 ⟨rfl, d, hd⟩
      rw [HU.out.same]
      have hP10 : At w10 w5.heap.size 28 (tcells s ca2 t.n cc2 ra2 t.m rc2) := by rw [hd]; exact hP9
      have hN10 : At w10 w8.heap.size 28 (tcells s ca3 t.n cc3 ra3 t.m rc3) := by rw [hd]; exact hN9
      have HC10 : Hid (RRow w10 ca2 257 t.n (cpF t.cb t.cd)) := by rw [hd]; exact RMine.row HC9.out (cpF_len _ _)
      have HR10 : Hid (RRow w10 ra2 1 t.m (inF t.rv)) := by rw [hd]; exact RMine.row HR9.out (inF_len _)
      have HD10 : Hid (RRow w10 ca3 257 t.n (cpF t.cb t.cd)) := by rw [hd]; exact RMine.row HD9.out (cpF_len _ _)
      have HE10 : Hid (RRow w10 ra3 1 t.m (inF t.rv)) := by rw [hd]; exact RMine.row HE9.out (inF_len _)
      have HL10 : Hid (Below w.heap.size w w10) := by rw [hd]; have hb := st9.out.bel; exact ⟨hb.os, hb.tape, hb.output, hb.size, hb.block⟩
      have q5 : ((u : Int) == (u : Int)) = true := beq_self_eq_true _
      clear hd hP9 hN9 HC9 HR9 HD9 HE9 HQ9 st9
      go_wp2_with (first | (refine wp_loadAtG rfl 28 (.tmp 14) rfl _ _ _ rfl hP10 Tryd.underlying28 rfl (info_trans _ _ _ _ _ _ _) ?_) | (refine wp_loadAtG rfl 28 (.tmp 19) rfl _ _ _ rfl hN10 Tryd.underlying28 rfl (info_trans _ _ _ _ _ _ _) ?_))
      refine (same15_any s t.n t.m t.cb t.cd t.rv ca2 cc2 ra2 rc2 ca3 cc3 ra3 rc3 (by omega) (by omega) w10 HC10.out HD10.out HR10.out HE10.out).mono ?_
      rintro e wf ⟨rfl, hbf⟩
      have HBF := Lib.hid (HL10.out.trans (hbf.mono HL10.out.size))
      clear hbf hP10 hN10
      go_wp2_with fail
      go_ret
      exact ⟨rfl, HBF.out⟩
end Go.Proofs.YthkalmdpbhjafaaDoor
