/- PackUnpacks. Printed by gen_wpu.py. -/
import Derived.Test.YthkalmdpbhjafaaDoorMg3
import Derived.Test.YthkalmdpbhjafaaDoorWPs
namespace Go.Proofs.YthkalmdpbhjafaaDoor
open Go.RowKit
set_option linter.unusedVariables false

/-- the blocks, and others of one's own that are the same -/
structure UpS (w : World) (la : Option Addr) (N lc : Nat) (ma : Option Addr) (mc : Nat) (L : Nat → Nat → Int) (W : World) : Prop where
  l : RMine W w.heap.size 40 256 (.slice la N lc) N (bkF L)
  m : RMine W w.heap.size 40 256 (.slice ma N mc) N (bkF L)
  ta : Tab W
  bel : Below w.heap.size w W
theorem UpS.below {w : World} {la : Option Addr} {N lc : Nat} {ma : Option Addr} {mc : Nat} {L : Nat → Nat → Int} {W W' : World} (h : UpS w la N lc ma mc L W) (hb : Below W.heap.size W W') : UpS w la N lc ma mc L W' :=
  ⟨RMine.below h.l hb, RMine.below h.m hb, h.ta.below hb (Nat.le_refl _), h.bel.trans (hb.mono h.bel.size)⟩
theorem rcapm {w : World} {base : Nat} {e : TypeId} {m : Nat} {a : Option Addr} {n cap : Nat} {f : Nat → List Value} (h : RMine w base e m (.slice a n cap) n f) : (cap : Int) ≤ 9223372036854775807 ∧ (a = none → n = 0 ∧ cap = 0) := by
  rcases h.2 with ⟨hv, h0⟩ | ⟨g, cp, cur, hv, _, _, _, hc, _⟩
  · injection hv with e1 e2 e3; exact ⟨by omega, fun _ => ⟨by omega, by omega⟩⟩
  · injection hv with e1 e2 e3
    have hmx : maxLen = 9223372036854775807 := rfl
    exact ⟨by omega, fun h => by rw [h] at e1; cases e1⟩
theorem run_blks0 (W : World) : (Instr.buildSlice 31 0 #[]).run Tryd.prog W = .ok (.slice (some ⟨W.heap.size, 0, none⟩) 0 0) (W.alloc (.cells #[] 40)) := by kernel_rfl
theorem sameB_refl (L : Nat → Nat → Int) (n : Nat) : sameB L L n n = true := by
  unfold sameB; rw [beq_self_eq_true, Bool.true_and]; exact (eqBs_iff _ _ _).2 fun i _ j _ => rfl
/-- two answers, as one -/
theorem two_parse {w1 w2 : World} {s : Int} {R : Option (Tr × Nat)} {e1 e2 : Ending} {W1 W2 : World} (h1 : ParsePost w1 s R e1 W1) (h2 : ParsePost w2 s R e2 W2) :
    (R = none ∧ e1 = .returned (.tuple #[tval 0 none 0 0 none 0 0, .int .i64 0, .bool false]) ∧ e2 = .returned (.tuple #[tval 0 none 0 0 none 0 0, .int .i64 0, .bool false])) ∨
    ∃ (t : Tr) (u : Nat) (ca : Option Addr) (cc : Nat) (ra : Option Addr) (rc : Nat) (ca' : Option Addr) (cc' : Nat) (ra' : Option Addr) (rc' : Nat), R = some (t, u) ∧ e1 = .returned (.tuple #[tval s ca t.n cc ra t.m rc, .int .i64 (u : Int), .bool true]) ∧ e2 = .returned (.tuple #[tval s ca' t.n cc' ra' t.m rc', .int .i64 (u : Int), .bool true]) ∧
      RMine W1 (w1.heap.size + 1) 61 257 (.slice ca t.n cc) t.n (cpF t.cb t.cd) ∧ RMine W1 (w1.heap.size + 1) 3 1 (.slice ra t.m rc) t.m (inF t.rv) ∧ RMine W2 (w2.heap.size + 1) 61 257 (.slice ca' t.n cc') t.n (cpF t.cb t.cd) ∧ RMine W2 (w2.heap.size + 1) 3 1 (.slice ra' t.m rc') t.m (inF t.rv) := by
  rcases h1 with ⟨a1, a2⟩ | ⟨t, u, ca, cc, ra, rc, a1, a2, a3, a4⟩ <;> rcases h2 with ⟨b1, b2⟩ | ⟨t', u', ca', cc', ra', rc', b1, b2, b3, b4⟩
  · exact .inl ⟨a1, a2, b2⟩
  · rw [a1] at b1; cases b1
  · rw [a1] at b1; cases b1
  · rw [a1] at b1
    injection b1 with b1
    injection b1 with e1 e2
    subst e1 e2
    exact .inr ⟨t, u, ca, cc, ra, rc, ca', cc', ra', rc', a1, a2, b2, a3, a4, b3, b4⟩

set_option maxRecDepth 100000 in
set_option maxHeartbeats 8000000 in
theorem packUnpacks_walk (s : Int) (hs : 0 ≤ s ∧ s < 4294967296) (la : Option Addr) (n lcap : Nat) (rb rf : Nat → Int) (rm : Nat → Bool) (c : Option Addr) (m cap : Nat) (rv : Nat → Int) (hi : In15 n rb rf m cap rv c) (ask : Int) (hask : 0 ≤ ask ∧ ask < 4294967296) (xa : Option Addr) (nx xc : Nat) (xb xt xo : Nat → Int) (hxb : ∀ i, -9223372036854775808 ≤ xb i ∧ xb i ≤ 9223372036854775807) (hxt : ∀ i, -9223372036854775808 ≤ xt i ∧ xt i ≤ 9223372036854775807) (hxo : ∀ i, 0 ≤ xo i ∧ xo i < 256)
    (less : Int) (hle : -9223372036854775808 ≤ less ∧ less ≤ 9223372036854775807) (lb : Option Addr) (n3 bcap : Nat) (rb3 rf3 : Nat → Int) (rm3 : Nat → Bool) (hf3 : ∀ i, 0 ≤ rf3 i ∧ rf3 i < 256) (hn3 : (n3 : Int) ≤ 9223372036854775807) (w : World) (hT : Tab w)
    (hl : RRow w la 3 n (rwF rb rf rm)) (hr : RRow w c 1 m (inF rv)) (hla : ∀ b off, la = some ⟨b, off, none⟩ → 0 < n → b < w.heap.size) (hx : RRow w xa 3 nx (chF xb xt xo)) (hxa : ∀ b off, xa = some ⟨b, off, none⟩ → 0 < nx → b < w.heap.size) (hb : RRow w lb 3 n3 (rwF rb3 rf3 rm3)) (hlb : ∀ b off, lb = some ⟨b, off, none⟩ → 0 < n3 → b < w.heap.size) :
    Calls Tryd.prog 4 #[.int .u32 s, .slice la n lcap, .slice c m cap, .int .u32 ask, .slice xa nx xc, .int .i64 less, .slice lb n3 bcap] w fun e w' => e = .returned (.bool true) ∧ Below w.heap.size w w' := by
  have halt := zero_trans
  have hTl := hT.lt
  have HI := Lib.hid hi
  have HLA : Hid (∀ b off, la = some ⟨b, off, none⟩ → 0 < n → b < w.heap.size) := hla
  have HXA : Hid (∀ b off, xa = some ⟨b, off, none⟩ → 0 < nx → b < w.heap.size) := hxa
  have HLB : Hid (∀ b off, lb = some ⟨b, off, none⟩ → 0 < n3 → b < w.heap.size) := hlb
  have HL1 := Lib.hid hl
  have HR1 := Lib.hid hr
  have HX1 := Lib.hid hx
  have HB1 := Lib.hid hb
  have HT1 := Lib.hid hT
  have HF3 := Lib.hid hf3
  have HXB := Lib.hid hxb
  have HXT := Lib.hid hxt
  have HXO := Lib.hid hxo
  have HLE := Lib.hid hle
  clear hl hr hla hi hT hb hlb hx hxa hf3 hxb hxt hxo hle
  go_enter Tryd.func4, Tryd.ntmps4
  go_wp2_with fail
  refine (great_any la c n m lcap cap w).mono ?_
  rintro e w2 ⟨rfl, hw2⟩
  obtain rfl : w = w2 := hw2.symm
  clear hw2
  cases hg : greatB n m with
  | true =>
    clear hg
    go_wp2_with fail
    go_ret
    exact ⟨rfl, Below.refl _ _⟩
  | false =>
    have hnm : n ≤ 400 ∧ m ≤ 3000 := by
      unfold greatB at hg
      rw [Bool.or_eq_false_iff, decide_eq_false_iff_not, decide_eq_false_iff_not] at hg
      omega
    obtain ⟨hn, hm⟩ := hnm
    clear hg
    by_cases hx100 : 100 < nx
    · have hx1 : (100 : Int) < (nx : Int) := by omega
      go_wp2_with fail
      go_ret
      exact ⟨rfl, Below.refl _ _⟩
    have hx1 : ¬ (100 : Int) < (nx : Int) := by omega
    go_wp2_with fail
    refine (trans15_any s hs la n lcap rb rf rm HI.out.f c m cap rv hn hm HI.out.no w HL1.out HR1.out (fun b off e h0 => by have := HLA.out b off e h0; omega)).mono ?_
    rintro e w3 ⟨ca, cc, ra, rc, rfl, hC, hR, hb3⟩
    have HT3 := Lib.hid (HT1.out.below hb3 (Nat.le_refl _))
    have HX3 := Lib.hid (HX1.out.below (by intro e; cases e) hb3)
    have HB3 := Lib.hid (HB1.out.below (by intro e; cases e) hb3)
    have HW3 := Lib.hid hb3
    have hs3 := hb3.size
    have HC3 := Lib.hid hC
    have HR3 := Lib.hid hR
    clear hC hR hb3 HT1 HX1 HB1 HL1 HR1
    go_wp2_with fail
    have hOk := trT_ok (n := n) (m := m) (rm := rm) hs HI.out.b HI.out.f HI.out.v hn hm
    have hC' := RMine.congr HC3.out (g := cpF (trT s n rb rf rm m rv).cb (trT s n rb rf rm m rv).cd) fun i hi => trT_c i hi
    have hR' := RMine.congr HR3.out (g := inF (trT s n rb rf rm m rv).rv) fun i hi => trT_v i hi
    have hbl := blocks_any (trT s n rb rf rm m rv) hOk ca cc ra rc xa nx xc xb xt xo HXB.out HXT.out HXO.out (by omega) less HLE.out lb n3 bcap rb3 rf3 rm3 HF3.out hn3 w3 (RMine.row hC' (cpF_len _ _)) (RMine.row hR' (inF_len _))
      (fun b off e => (World.ownsRow.lt hC' b (by rw [e]; rfl)).2) (fun b off e => (World.ownsRow.lt hR' b (by rw [e]; rfl)).2) HX3.out (fun b off e h0 => by have := HXA.out b off e h0; omega) HB3.out (fun b off e h0 => by have := HLB.out b off e h0; omega)
    refine hbl.mono ?_
    rintro e w4 ⟨l4, N, lc, L0, rfl, hN, hLb0, hl40, hb4⟩
    obtain ⟨L, hLdef⟩ : ∃ L : Nat → Nat → Int, L = fun i j => if j < 256 then L0 i j else 0 := ⟨_, rfl⟩
    have hLb : ∀ i, Byt (L i) := fun i j => by
      rw [hLdef]; show 0 ≤ (if j < 256 then L0 i j else 0) ∧ (if j < 256 then L0 i j else 0) < 256
      split
      · exact hLb0 i j
      · omega
    have hNf : ∀ i, NfB (L i) := fun i j hj => by rw [hLdef]; show (if j < 256 then L0 i j else 0) = 0; rw [if_neg (by omega)]
    have hl4 : RMine w4 (w3.heap.size + 1) 40 256 (.slice l4 N lc) N (bkF L) := RMine.congr hl40 (fun i _ => by
      unfold bkF Ks; rw [hLdef]
      refine List.map_congr_left fun j hj => ?_
      have := List.mem_range.1 hj
      show _ = Value.int _ (if j < 256 then L0 i j else 0)
      rw [if_pos this])
    have hcap := rcap hl4
    obtain ⟨hmx2, hnone⟩ := rcapm hl4
    have HLb := Lib.hid hLb
    have HNf := Lib.hid hNf
    have HT4 := Lib.hid (HT3.out.below hb4 (Nat.le_refl _))
    have HW4 := Lib.hid (HW3.out.trans (hb4.mono HW3.out.size))
    have hs4 := hb4.size
    have HLX := Lib.hid hl4
    have HL4 := Lib.hid (RMine.alloc hl4 (.cells #[] 40))
    have hown : (w4.alloc (.cells #[] 40)).ownsRow w.heap.size 40 256 (.slice (some ⟨w4.heap.size, 0, none⟩) 0 0) 0 [] :=
      ⟨by simp, .inr ⟨w4.heap.size, 0, #[], rfl, by omega, heap_alloc_new w4 _, Nat.le_refl _, Nat.zero_le _, rfl, by simp⟩⟩
    have hnews : ∀ ad, l4 = some ad → ∀ (j : Nat) (u : Value), (Cs (bkF L) N)[j]? = some u → (w4.alloc (.cells #[] 40)).cell? (ad.add j) = some u := fun ad had => by
      subst had
      exact row_news15 (m := 256) (by omega) (bkF_len _) (RMine.row HL4.out (bkF_len _))
    have hlen : (Cs (bkF L) N).length = N * 256 := Cs_length (bkF_len _) _
    have hone : ∀ u ∈ Cs (bkF L) N, u.oneCell' = true := Cs_one (bkF_one _) _
    obtain ⟨i0, hi0, hz⟩ := Option.map_eq_some_iff.1 info_blk3
    simp only [Prod.mk.injEq] at hz
    obtain ⟨hz0, hz1, hz2⟩ := hz
    have hbs := run_blks0
    clear hOk hC' hR' hbl hLb hNf hl4 hl40 hLb0 hLdef HT3 HX3 HB3 HW3 HC3 HR3 hb4
    go_wp2_with (first | (refine wpList_copy rfl (.tmp 41) (.tmp 42) 31 rfl w.heap.size 40 i0 (bval fun _ => 0) 256 256 Tryd.underlying31 hi0 hz0 hz1 hz2 (by simp [Value.cells, Ks]) (by decide) w4.heap.size rfl hown l4 N lc (Cs (bkF L) N) rfl hnone hlen hnews hone (by unfold maxLen; omega) (by omega) (by simp; omega) ?_))
    intro v' w5 ho5 hg5
    have hm5 : RMine w5 w.heap.size 40 256 v' N (bkF L) := ho5
    obtain ⟨ma, mc, rfl⟩ := hm5.form
    have hl5 : RMine w5 w.heap.size 40 256 (.slice l4 N lc) N (bkF L) := RMine.low (World.ownsRow.kept HL4.out hg5 (by
      cases h1 : (Value.slice l4 N lc).ownBlock with
      | none => exact .inl rfl
      | some g => exact .inr (fun e2 => by injection e2 with e2; have := (World.ownsRow.lt HLX.out g h1).2; omega))) (by omega)
    have st5 : Hid (UpS w l4 N lc ma mc L w5) := ⟨hl5, hm5, (HT4.out.alloc _).kept hg5 (fun e => by injection e with e; have h := HT4.out.lt; rw [e] at h; exact absurd h (Nat.lt_irrefl _)), (HW4.out.alloc HW4.out.size _).grown hg5 (HW4.out.alloc HW4.out.size _).size (fun q e => by injection e with e; omega)⟩
    have hcapm := rcap hm5
    obtain ⟨hmxm, _⟩ := rcapm hm5
    clear ho5 hg5 hm5 hl5 hown hnews hlen hone hbs HL4 HLX HT4 HW4
    go_wp2_with fail
    go_loopw [17, 18, 19, 20, 21, 22, 23, 24] (fun u _ _ _ _ _ _ _ wr => ∃ k : Nat, u = .int .i64 (k : Int) ∧ k ≤ 2 ∧ UpS w l4 N lc ma mc L wr) (fun u _ _ _ _ _ _ _ _ => 2 - (intOf u).toNat)
    case atStart => exact ⟨0, rfl, Nat.zero_le _, st5.out⟩
    case round =>
      clear st5
      obtain ⟨k, rfl, hk, st⟩ := hrel
      have ST := Lib.hid st
      clear st
      have hcase : k = 0 ∨ k = 1 ∨ k = 2 := by omega
      rcases hcase with rfl | rfl | rfl
      rotate_right
      · go_wp2_with fail
        go_ret
        exact ⟨rfl, ST.out.bel⟩
      · go_wp2_with fail
        refine (unpack_any ma N mc L HLb.out s hs hcapm hmxm wr ST.out.ta (RMine.row ST.out.m (bkF_len _)) (fun b off e => (World.ownsRow.lt ST.out.m b (by rw [e]; rfl)).2)).mono ?_
        rintro e w6 ⟨hp6, hb6⟩
        have ST6 := Lib.hid (ST.out.below hb6)
        have HP6 := Lib.hid hp6
        have hs6 := hb6.size
        have hP6 := At.new w6 28 (tcells 0 none 0 0 none 0 0)
        have hL6 : Below w6.heap.size w6 (w6.alloc (.cells (tcells 0 none 0 0 none 0 0) 28)) := (Below.refl _ _).alloc (Nat.le_refl _) _
        rcases hp6 with ⟨hU, rfl⟩ | ⟨t, u, ca2, cc2, ra2, rc2, hU, rfl, hC, hR⟩
        · clear hb6 ST HP6
          go_wp2_with (first | (refine wp_storeAt rfl 28 (.tmp 19) (.tmp 56) rfl w6.heap.size (tcells 0 none 0 0 none 0 0) _ rfl rfl hP6 (info_trans 0 none 0 0 none 0 0) rfl (by kernel_rfl) ?_))
          intro w7 hP7 ho7
          have hL7 := hL6.trans (ho7.below (Nat.le_refl _))
          have ST7 := Lib.hid (ST6.out.below hL7)
          have HUU := Lib.hid hU
          have hlt7 := hP7.lt
          clear hL6 hP6 ho7 hL7 ST6 hU
          go_wp2_with fail
          refine (rUnpack_any l4 N lc L HLb.out HNf.out s hs (by omega) hcap hmx2 w7 (RMine.row ST7.out.l (bkF_len _)) (fun b off e => (World.ownsRow.lt ST7.out.l b (by rw [e]; rfl)).2)).mono ?_
          rintro e w8 ⟨hp8, hb8⟩
          rcases hp8 with ⟨_, rfl⟩ | ⟨t, u, ca2, cc2, ra2, rc2, hU, _⟩
          rotate_left
          · rw [HUU.out] at hU; cases hU
          have ST8 := Lib.hid (ST7.out.below hb8)
          have hP8 := hP7.below hb8 hlt7
          have hs8 := hb8.size
          have hlt8 := hP8.lt
          have hQ8 := At.new w8 28 (tcells 0 none 0 0 none 0 0)
          have hL8 : Below w8.heap.size w8 (w8.alloc (.cells (tcells 0 none 0 0 none 0 0) 28)) := (Below.refl _ _).alloc (Nat.le_refl _) _
          clear hb8 ST7 hP7
          go_wp2_with (first | (refine wp_storeAt rfl 28 (.tmp 22) (.tmp 63) rfl w8.heap.size (tcells 0 none 0 0 none 0 0) _ rfl rfl hQ8 (info_trans 0 none 0 0 none 0 0) rfl (by kernel_rfl) ?_))
          intro w9 hQ9 ho9
          have hL9 := hL8.trans (ho9.below (Nat.le_refl _))
          have ST9 := Lib.hid (ST8.out.below hL9)
          have hP9 := hP8.below hL9 hlt8
          clear hL8 hL9 ho9 ST8 hP8 hQ8
          go_wp2_with (first | (refine wp_loadAtG rfl 28 (.tmp 19) rfl _ _ _ rfl hP9 Tryd.underlying28 rfl (info_trans _ _ _ _ _ _ _) ?_) | (refine wp_loadAtG rfl 28 (.tmp 22) rfl _ _ _ rfl hQ9 Tryd.underlying28 rfl (info_trans _ _ _ _ _ _ _) ?_))
          refine (same15_any 0 0 0 (fun _ => 0) (fun _ _ => 0) (fun _ => 0) none 0 none 0 none 0 none 0 (by omega) (by omega) w9 (.inl rfl) (.inl rfl) (.inl rfl) (.inl rfl)).mono ?_
          rintro e wa ⟨rfl, hba⟩
          have STa := Lib.hid (ST9.out.below hba)
          clear hba hP9 hQ9 ST9
          go_wp2_with fail
          refine (sameBlocks_any ma l4 N N mc lc L L (by omega) (by omega) wa (RMine.row STa.out.m (bkF_len _)) (RMine.row STa.out.l (bkF_len _))).mono ?_
          rintro e wb ⟨rfl, d, hd⟩
          rw [sameB_refl]
          have STb : Hid (UpS w l4 N lc ma mc L wb) := by rw [hd]; have h := STa.out; exact ⟨h.l, h.m, h.ta, ⟨h.bel.os, h.bel.tape, h.bel.output, h.bel.size, h.bel.block⟩⟩
          clear hd STa
          go_wp2_with fail
          go_roundw
          case rel => first | exact ⟨1, rfl, by omega, STb.out⟩ | ((repeat apply Exists.intro); exact ⟨⟨1, rfl, by omega, STb.out⟩, rfl⟩)
          case measure => simp [intOf]
        · have hUs := unp_some HLb.out hs hU
          have htn := hUs.n
          have htm := hUs.m
          have HC6 := Lib.hid hC
          have HR6 := Lib.hid hR
          have HUU := Lib.hid hU
          clear hb6 ST HP6 hC hR hU hUs
          go_wp2_with (first | (refine wp_storeAt rfl 28 (.tmp 19) (.tmp 56) rfl w6.heap.size (tcells s ca2 t.n cc2 ra2 t.m rc2) _ rfl rfl hP6 (info_trans 0 none 0 0 none 0 0) rfl (by kernel_rfl) ?_))
          intro w7 hP7 ho7
          have hL7 := hL6.trans (ho7.below (Nat.le_refl _))
          have ST7 := Lib.hid (ST6.out.below hL7)
          have HC7 := Lib.hid (RMine.below HC6.out hL7)
          have HR7 := Lib.hid (RMine.below HR6.out hL7)
          have hlt7 := hP7.lt
          clear hL6 hP6 ho7 hL7 ST6 HC6 HR6
          go_wp2_with fail
          refine (rUnpack_any l4 N lc L HLb.out HNf.out s hs (by omega) hcap hmx2 w7 (RMine.row ST7.out.l (bkF_len _)) (fun b off e => (World.ownsRow.lt ST7.out.l b (by rw [e]; rfl)).2)).mono ?_
          rintro e w8 ⟨hp8, hb8⟩
          rcases hp8 with ⟨hU, _⟩ | ⟨t', u', ca3, cc3, ra3, rc3, hU, rfl, hC, hR⟩
          · rw [HUU.out] at hU; cases hU
          rw [HUU.out] at hU
          injection hU with hU
          injection hU with e1 e2
          subst e1 e2
          have ST8 := Lib.hid (ST7.out.below hb8)
          have HC8 := Lib.hid (RMine.below HC7.out hb8)
          have HR8 := Lib.hid (RMine.below HR7.out hb8)
          have HD8 := Lib.hid hC
          have HE8 := Lib.hid hR
          have hP8 := hP7.below hb8 hlt7
          have hs8 := hb8.size
          have hlt8 := hP8.lt
          have hQ8 := At.new w8 28 (tcells 0 none 0 0 none 0 0)
          have hL8 : Below w8.heap.size w8 (w8.alloc (.cells (tcells 0 none 0 0 none 0 0) 28)) := (Below.refl _ _).alloc (Nat.le_refl _) _
          clear hb8 ST7 hP7 hC hR HC7 HR7
          go_wp2_with (first | (refine wp_storeAt rfl 28 (.tmp 22) (.tmp 63) rfl w8.heap.size (tcells s ca3 t.n cc3 ra3 t.m rc3) _ rfl rfl hQ8 (info_trans 0 none 0 0 none 0 0) rfl (by kernel_rfl) ?_))
          intro w9 hQ9 ho9
          have hL9 := hL8.trans (ho9.below (Nat.le_refl _))
          have ST9 := Lib.hid (ST8.out.below hL9)
          have HC9 := Lib.hid (RMine.below HC8.out hL9)
          have HR9 := Lib.hid (RMine.below HR8.out hL9)
          have HD9 := Lib.hid (RMine.below HD8.out hL9)
          have HE9 := Lib.hid (RMine.below HE8.out hL9)
          have hP9 := hP8.below hL9 hlt8
          have qu : ((u : Int) != (u : Int)) = false := by simp
          clear hL8 hL9 ho9 ST8 hP8 hQ8 HC8 HR8 HD8 HE8
          go_wp2_with (first | (refine wp_loadAtG rfl 28 (.tmp 19) rfl _ _ _ rfl hP9 Tryd.underlying28 rfl (info_trans _ _ _ _ _ _ _) ?_) | (refine wp_loadAtG rfl 28 (.tmp 22) rfl _ _ _ rfl hQ9 Tryd.underlying28 rfl (info_trans _ _ _ _ _ _ _) ?_))
          refine (same15_any s t.n t.m t.cb t.cd t.rv ca2 cc2 ra2 rc2 ca3 cc3 ra3 rc3 (by omega) (by omega) w9 (RMine.row HC9.out (cpF_len _ _)) (RMine.row HD9.out (cpF_len _ _)) (RMine.row HR9.out (inF_len _)) (RMine.row HE9.out (inF_len _))).mono ?_
          rintro e wa ⟨rfl, hba⟩
          have STa := Lib.hid (ST9.out.below hba)
          clear hba hP9 hQ9 ST9 HC9 HR9 HD9 HE9
          go_wp2_with fail
          refine (sameBlocks_any ma l4 N N mc lc L L (by omega) (by omega) wa (RMine.row STa.out.m (bkF_len _)) (RMine.row STa.out.l (bkF_len _))).mono ?_
          rintro e wb ⟨rfl, d, hd⟩
          rw [sameB_refl]
          have STb : Hid (UpS w l4 N lc ma mc L wb) := by rw [hd]; have h := STa.out; exact ⟨h.l, h.m, h.ta, ⟨h.bel.os, h.bel.tape, h.bel.output, h.bel.size, h.bel.block⟩⟩
          clear hd STa
          go_wp2_with fail
          go_roundw
          case rel => first | exact ⟨1, rfl, by omega, STb.out⟩ | ((repeat apply Exists.intro); exact ⟨⟨1, rfl, by omega, STb.out⟩, rfl⟩)
          case measure => simp [intOf]
      · go_wp2_with fail
        refine (unpack_any ma N mc L HLb.out ask hask hcapm hmxm wr ST.out.ta (RMine.row ST.out.m (bkF_len _)) (fun b off e => (World.ownsRow.lt ST.out.m b (by rw [e]; rfl)).2)).mono ?_
        rintro e w6 ⟨hp6, hb6⟩
        have ST6 := Lib.hid (ST.out.below hb6)
        have HP6 := Lib.hid hp6
        have hs6 := hb6.size
        have hP6 := At.new w6 28 (tcells 0 none 0 0 none 0 0)
        have hL6 : Below w6.heap.size w6 (w6.alloc (.cells (tcells 0 none 0 0 none 0 0) 28)) := (Below.refl _ _).alloc (Nat.le_refl _) _
        rcases hp6 with ⟨hU, rfl⟩ | ⟨t, u, ca2, cc2, ra2, rc2, hU, rfl, hC, hR⟩
        · clear hb6 ST HP6
          go_wp2_with (first | (refine wp_storeAt rfl 28 (.tmp 19) (.tmp 56) rfl w6.heap.size (tcells 0 none 0 0 none 0 0) _ rfl rfl hP6 (info_trans 0 none 0 0 none 0 0) rfl (by kernel_rfl) ?_))
          intro w7 hP7 ho7
          have hL7 := hL6.trans (ho7.below (Nat.le_refl _))
          have ST7 := Lib.hid (ST6.out.below hL7)
          have HUU := Lib.hid hU
          have hlt7 := hP7.lt
          clear hL6 hP6 ho7 hL7 ST6 hU
          go_wp2_with fail
          refine (rUnpack_any l4 N lc L HLb.out HNf.out ask hask (by omega) hcap hmx2 w7 (RMine.row ST7.out.l (bkF_len _)) (fun b off e => (World.ownsRow.lt ST7.out.l b (by rw [e]; rfl)).2)).mono ?_
          rintro e w8 ⟨hp8, hb8⟩
          rcases hp8 with ⟨_, rfl⟩ | ⟨t, u, ca2, cc2, ra2, rc2, hU, _⟩
          rotate_left
          · rw [HUU.out] at hU; cases hU
          have ST8 := Lib.hid (ST7.out.below hb8)
          have hP8 := hP7.below hb8 hlt7
          have hs8 := hb8.size
          have hlt8 := hP8.lt
          have hQ8 := At.new w8 28 (tcells 0 none 0 0 none 0 0)
          have hL8 : Below w8.heap.size w8 (w8.alloc (.cells (tcells 0 none 0 0 none 0 0) 28)) := (Below.refl _ _).alloc (Nat.le_refl _) _
          clear hb8 ST7 hP7
          go_wp2_with (first | (refine wp_storeAt rfl 28 (.tmp 22) (.tmp 63) rfl w8.heap.size (tcells 0 none 0 0 none 0 0) _ rfl rfl hQ8 (info_trans 0 none 0 0 none 0 0) rfl (by kernel_rfl) ?_))
          intro w9 hQ9 ho9
          have hL9 := hL8.trans (ho9.below (Nat.le_refl _))
          have ST9 := Lib.hid (ST8.out.below hL9)
          have hP9 := hP8.below hL9 hlt8
          clear hL8 hL9 ho9 ST8 hP8 hQ8
          go_wp2_with (first | (refine wp_loadAtG rfl 28 (.tmp 19) rfl _ _ _ rfl hP9 Tryd.underlying28 rfl (info_trans _ _ _ _ _ _ _) ?_) | (refine wp_loadAtG rfl 28 (.tmp 22) rfl _ _ _ rfl hQ9 Tryd.underlying28 rfl (info_trans _ _ _ _ _ _ _) ?_))
          refine (same15_any 0 0 0 (fun _ => 0) (fun _ _ => 0) (fun _ => 0) none 0 none 0 none 0 none 0 (by omega) (by omega) w9 (.inl rfl) (.inl rfl) (.inl rfl) (.inl rfl)).mono ?_
          rintro e wa ⟨rfl, hba⟩
          have STa := Lib.hid (ST9.out.below hba)
          clear hba hP9 hQ9 ST9
          go_wp2_with fail
          refine (sameBlocks_any ma l4 N N mc lc L L (by omega) (by omega) wa (RMine.row STa.out.m (bkF_len _)) (RMine.row STa.out.l (bkF_len _))).mono ?_
          rintro e wb ⟨rfl, d, hd⟩
          rw [sameB_refl]
          have STb : Hid (UpS w l4 N lc ma mc L wb) := by rw [hd]; have h := STa.out; exact ⟨h.l, h.m, h.ta, ⟨h.bel.os, h.bel.tape, h.bel.output, h.bel.size, h.bel.block⟩⟩
          clear hd STa
          go_wp2_with fail
          go_roundw
          case rel => first | exact ⟨2, rfl, by omega, STb.out⟩ | ((repeat apply Exists.intro); exact ⟨⟨2, rfl, by omega, STb.out⟩, rfl⟩)
          case measure => simp [intOf]
        · have hUs := unp_some HLb.out hask hU
          have htn := hUs.n
          have htm := hUs.m
          have HC6 := Lib.hid hC
          have HR6 := Lib.hid hR
          have HUU := Lib.hid hU
          clear hb6 ST HP6 hC hR hU hUs
          go_wp2_with (first | (refine wp_storeAt rfl 28 (.tmp 19) (.tmp 56) rfl w6.heap.size (tcells ask ca2 t.n cc2 ra2 t.m rc2) _ rfl rfl hP6 (info_trans 0 none 0 0 none 0 0) rfl (by kernel_rfl) ?_))
          intro w7 hP7 ho7
          have hL7 := hL6.trans (ho7.below (Nat.le_refl _))
          have ST7 := Lib.hid (ST6.out.below hL7)
          have HC7 := Lib.hid (RMine.below HC6.out hL7)
          have HR7 := Lib.hid (RMine.below HR6.out hL7)
          have hlt7 := hP7.lt
          clear hL6 hP6 ho7 hL7 ST6 HC6 HR6
          go_wp2_with fail
          refine (rUnpack_any l4 N lc L HLb.out HNf.out ask hask (by omega) hcap hmx2 w7 (RMine.row ST7.out.l (bkF_len _)) (fun b off e => (World.ownsRow.lt ST7.out.l b (by rw [e]; rfl)).2)).mono ?_
          rintro e w8 ⟨hp8, hb8⟩
          rcases hp8 with ⟨hU, _⟩ | ⟨t', u', ca3, cc3, ra3, rc3, hU, rfl, hC, hR⟩
          · rw [HUU.out] at hU; cases hU
          rw [HUU.out] at hU
          injection hU with hU
          injection hU with e1 e2
          subst e1 e2
          have ST8 := Lib.hid (ST7.out.below hb8)
          have HC8 := Lib.hid (RMine.below HC7.out hb8)
          have HR8 := Lib.hid (RMine.below HR7.out hb8)
          have HD8 := Lib.hid hC
          have HE8 := Lib.hid hR
          have hP8 := hP7.below hb8 hlt7
          have hs8 := hb8.size
          have hlt8 := hP8.lt
          have hQ8 := At.new w8 28 (tcells 0 none 0 0 none 0 0)
          have hL8 : Below w8.heap.size w8 (w8.alloc (.cells (tcells 0 none 0 0 none 0 0) 28)) := (Below.refl _ _).alloc (Nat.le_refl _) _
          clear hb8 ST7 hP7 hC hR HC7 HR7
          go_wp2_with (first | (refine wp_storeAt rfl 28 (.tmp 22) (.tmp 63) rfl w8.heap.size (tcells ask ca3 t.n cc3 ra3 t.m rc3) _ rfl rfl hQ8 (info_trans 0 none 0 0 none 0 0) rfl (by kernel_rfl) ?_))
          intro w9 hQ9 ho9
          have hL9 := hL8.trans (ho9.below (Nat.le_refl _))
          have ST9 := Lib.hid (ST8.out.below hL9)
          have HC9 := Lib.hid (RMine.below HC8.out hL9)
          have HR9 := Lib.hid (RMine.below HR8.out hL9)
          have HD9 := Lib.hid (RMine.below HD8.out hL9)
          have HE9 := Lib.hid (RMine.below HE8.out hL9)
          have hP9 := hP8.below hL9 hlt8
          have qu : ((u : Int) != (u : Int)) = false := by simp
          clear hL8 hL9 ho9 ST8 hP8 hQ8 HC8 HR8 HD8 HE8
          go_wp2_with (first | (refine wp_loadAtG rfl 28 (.tmp 19) rfl _ _ _ rfl hP9 Tryd.underlying28 rfl (info_trans _ _ _ _ _ _ _) ?_) | (refine wp_loadAtG rfl 28 (.tmp 22) rfl _ _ _ rfl hQ9 Tryd.underlying28 rfl (info_trans _ _ _ _ _ _ _) ?_))
          refine (same15_any ask t.n t.m t.cb t.cd t.rv ca2 cc2 ra2 rc2 ca3 cc3 ra3 rc3 (by omega) (by omega) w9 (RMine.row HC9.out (cpF_len _ _)) (RMine.row HD9.out (cpF_len _ _)) (RMine.row HR9.out (inF_len _)) (RMine.row HE9.out (inF_len _))).mono ?_
          rintro e wa ⟨rfl, hba⟩
          have STa := Lib.hid (ST9.out.below hba)
          clear hba hP9 hQ9 ST9 HC9 HR9 HD9 HE9
          go_wp2_with fail
          refine (sameBlocks_any ma l4 N N mc lc L L (by omega) (by omega) wa (RMine.row STa.out.m (bkF_len _)) (RMine.row STa.out.l (bkF_len _))).mono ?_
          rintro e wb ⟨rfl, d, hd⟩
          rw [sameB_refl]
          have STb : Hid (UpS w l4 N lc ma mc L wb) := by rw [hd]; have h := STa.out; exact ⟨h.l, h.m, h.ta, ⟨h.bel.os, h.bel.tape, h.bel.output, h.bel.size, h.bel.block⟩⟩
          clear hd STa
          go_wp2_with fail
          go_roundw
          case rel => first | exact ⟨2, rfl, by omega, STb.out⟩ | ((repeat apply Exists.intro); exact ⟨⟨2, rfl, by omega, STb.out⟩, rfl⟩)
          case measure => simp [intOf]
end Go.Proofs.YthkalmdpbhjafaaDoor
