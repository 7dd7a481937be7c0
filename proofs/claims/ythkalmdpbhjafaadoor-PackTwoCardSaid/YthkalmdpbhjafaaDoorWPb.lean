/- PackBack. -/
import Derived.Test.YthkalmdpbhjafaaDoorWPs
import Derived.Test.YthkalmdpbhjafaaDoorPk16
namespace Go.Proofs.YthkalmdpbhjafaaDoor
open Go.RowKit
set_option linter.unusedVariables false

/-- packed blocks, and rows' blocks behind them -/
def bhL (t : Tr) (rf : Nat → Int) (rm : Nat → Bool) (j : Nat) : Nat → Int := if j ≤ t.c then pkB t j else rowZ (rf (j - (t.c + 1))) (rm (j - (t.c + 1)))
theorem bhL_byt {t : Tr} (ht : t.Ok) {rf : Nat → Int} {rm : Nat → Bool} (hf : ∀ i, 0 ≤ rf i ∧ rf i < 256) (j : Nat) : Byt (bhL t rf rm j) := by
  unfold bhL; split
  · exact pkB_byt t ht _
  · exact rowZ_byt (hf _) _
/-- while blocks are laid behind -/
structure Bh (w : World) (s : Int) (T : Tr) (lb : Option Addr) (n3 : Nat) (rb rf : Nat → Int) (rm : Nat → Bool) (p k : Nat) (la : Option Addr) (lc : Nat) (ca : Option Addr) (cc : Nat) (ra : Option Addr) (rc : Nat) (st : Mv.St) (W : World) : Prop where
  t : At W p 28 (tcells s ca T.n cc ra T.m rc)
  c : RMine W (w.heap.size + 1) 61 257 (.slice ca T.n cc) T.n (cpF T.cb T.cd)
  v : RMine W (w.heap.size + 1) 3 1 (.slice ra T.m rc) T.m (inF T.rv)
  l : RRow W lb 3 n3 (rwF rb rf rm)
  ta : Tab W
  bel : Below w.heap.size w W
  s0 : st.n < 2 → RMine W w.heap.size 40 256 (.slice la (T.c + 1 + k) lc) (T.c + 1 + k) (bkF (bhL T rf rm))
  s1 : st.n = 1 → ∀ q, st.v = .slice (some ⟨q, 0, none⟩) 1 1 → ∀ j u, (bkF (bhL T rf rm) (T.c + 1 + k))[j]? = some u → W.cell? ((⟨q, 0, none⟩ : Addr).add j) = some u
  s2 : st.n = 2 → RMine W w.heap.size 40 256 st.v (T.c + 1 + k + 1) (bkF (bhL T rf rm))

theorem own_raise {W : World} {base base' : Nat} {e : TypeId} {size g n cap : Nat} {xs : List Value} (h : W.ownsRow base e size (.slice (some ⟨g, 0, none⟩) n cap) n xs) (hb : base' ≤ g) : W.ownsRow base' e size (.slice (some ⟨g, 0, none⟩) n cap) n xs := by
  refine ⟨h.1, ?_⟩
  rcases h.2 with ⟨hv, _⟩ | ⟨g', cap', cur, hv, hbb, hr⟩
  · cases hv
  · have hv' := hv
    injection hv' with h1 h2 h3
    injection h1 with h1
    injection h1 with h1
    exact .inr ⟨g', cap', cur, hv, by omega, hr⟩
theorem Bh.below {w : World} {s : Int} {T : Tr} {lb : Option Addr} {n3 : Nat} {rb rf : Nat → Int} {rm : Nat → Bool} {p k : Nat} {la : Option Addr} {lc : Nat} {ca : Option Addr} {cc : Nat} {ra : Option Addr} {rc : Nat} {W W' : World} (h : Bh w s T lb n3 rb rf rm p k la lc ca cc ra rc ⟨0, undef⟩ W) (hb : Below W.heap.size W W') : Bh w s T lb n3 rb rf rm p k la lc ca cc ra rc ⟨0, undef⟩ W' :=
  ⟨h.t.below hb h.t.lt, RMine.below h.c hb, RMine.below h.v hb, h.l.below (by intro e; cases e) hb, h.ta.below hb (Nat.le_refl _), h.bel.trans (hb.mono h.bel.size), fun h' => RMine.below (h.s0 h') hb, (fun h' => by cases h'), (fun h' => by cases h')⟩

set_option maxRecDepth 100000 in
set_option maxHeartbeats 8000000 in
theorem packBack_walk (s : Int) (hs : 0 ≤ s ∧ s < 4294967296) (la : Option Addr) (n lcap : Nat) (rb rf : Nat → Int) (rm : Nat → Bool) (c : Option Addr) (m cap : Nat) (rv : Nat → Int) (hi : In15 n rb rf m cap rv c) (lb : Option Addr) (n3 bcap : Nat) (rb3 rf3 : Nat → Int) (rm3 : Nat → Bool) (hf3 : ∀ i, 0 ≤ rf3 i ∧ rf3 i < 256) (hn3 : (n3 : Int) ≤ 9223372036854775807) (w : World) (hT : Tab w)
    (hl : RRow w la 3 n (rwF rb rf rm)) (hr : RRow w c 1 m (inF rv)) (hla : ∀ b off, la = some ⟨b, off, none⟩ → 0 < n → b < w.heap.size) (hb : RRow w lb 3 n3 (rwF rb3 rf3 rm3)) (hlb : ∀ b off, lb = some ⟨b, off, none⟩ → 0 < n3 → b < w.heap.size) :
    Calls Tryd.prog 5 #[.int .u32 s, .slice la n lcap, .slice c m cap, .slice lb n3 bcap] w fun e w' => e = .returned (.bool true) ∧ Below w.heap.size w w' := by
  have halt := zero_trans
  have hTl := hT.lt
  have HI := Lib.hid hi
  have HLA : Hid (∀ b off, la = some ⟨b, off, none⟩ → 0 < n → b < w.heap.size) := hla
  have HLB : Hid (∀ b off, lb = some ⟨b, off, none⟩ → 0 < n3 → b < w.heap.size) := hlb
  have HL := Lib.hid hl
  have HR := Lib.hid hr
  have HB := Lib.hid hb
  have HT := Lib.hid hT
  clear hl hr hla hi hT hb hlb
  go_enter Tryd.func5, Tryd.ntmps5
  go_wp2_with fail
  refine (awake15 w HT.out).mono ?_
  rintro e w1 ⟨rfl, hb1⟩
  have hs1 := hb1.size
  go_wp2_with fail
  refine (great_any la c n m lcap cap w1).mono ?_
  rintro e w2 ⟨rfl, hw2⟩
  obtain rfl : w1 = w2 := hw2.symm
  clear hw2
  cases hg : greatB n m with
  | true =>
    clear hg
    go_wp2_with fail
    go_ret
    exact ⟨rfl, hb1⟩
  | false =>
    have hnm : n ≤ 400 ∧ m ≤ 3000 := by
      unfold greatB at hg
      rw [Bool.or_eq_false_iff, decide_eq_false_iff_not, decide_eq_false_iff_not] at hg
      omega
    obtain ⟨hn, hm⟩ := hnm
    have HL1 := Lib.hid (HL.out.below (by intro e; cases e) hb1)
    have HR1 := Lib.hid (HR.out.below (by intro e; cases e) hb1)
    have HX1 := Lib.hid (HB.out.below (by intro e; cases e) hb1)
    have HT1 := Lib.hid (HT.out.below hb1 (Nat.le_refl _))
    have HB1 := Lib.hid hb1
    clear HL HR HT HB hg hb1
    go_wp2_with fail
    refine (trans15_any s hs la n lcap rb rf rm HI.out.f c m cap rv hn hm HI.out.no w1 HL1.out HR1.out (fun b off e h0 => by have := HLA.out b off e h0; omega)).mono ?_
    rintro e w3 ⟨ca, cc, ra, rc, rfl, hC, hR, hb3⟩
    have HT3 := Lib.hid (HT1.out.below hb3 (Nat.le_refl _))
    have HX3 := Lib.hid (HX1.out.below (by intro e; cases e) hb3)
    have HB3 := Lib.hid (HB1.out.trans (hb3.mono hs1))
    have hs3 := hb3.size
    have HC3 := Lib.hid hC
    have HR3 := Lib.hid hR
    have hP3 := At.new w3 28 (tcells 0 none 0 0 none 0 0)
    clear hC hR hb3 HT1 HX1 HB1 HL1 HR1
    go_wp2_with (first | (refine wp_storeAt rfl 28 (.tmp 9) (.tmp 28) rfl w3.heap.size (tcells s ca n cc ra m rc) _ rfl rfl hP3 (info_trans 0 none 0 0 none 0 0) rfl (by kernel_rfl) ?_))
    intro w4 hP4 ho4
    have hs4 := ho4.size
    rw [World.size_alloc] at hs4
    obtain ⟨p, hp⟩ : ∃ p, p = w3.heap.size := ⟨_, rfl⟩
    have HT4 := Lib.hid ((HT3.out.alloc _).only ho4 (by show _ ≠ (0 : Nat); omega))
    have HC4 := Lib.hid (own_only (RMine.alloc HC3.out _) ho4 (fun e => by have := (World.ownsRow.lt HC3.out _ e).2; omega))
    have HR4 := Lib.hid (own_only (RMine.alloc HR3.out _) ho4 (fun e => by have := (World.ownsRow.lt HR3.out _ e).2; omega))
    have HX4 := Lib.hid (RRowO (HX3.out.alloc _) ho4 (fun b off e h0 => by have := HLB.out b off e h0; omega))
    have HB4 := Lib.hid ((HB3.out.alloc HB3.out.size _).trans (ho4.below (by omega)))
    have hPK := tpack (w0 := w1) hs HI.out hn hm HT4.out (by omega) HC4.out HR4.out
    have hOk := trT_ok (n := n) (m := m) (rm := rm) hs HI.out.b HI.out.f HI.out.v hn hm
    have hZ := fun i hi => trT_z (s := s) (n := n) (rb := rb) (rf := rf) (rm := rm) (m := m) (rv := rv) i hi
    have hC' := RMine.congr HC4.out (g := cpF (trT s n rb rf rm m rv).cb (trT s n rb rf rm m rv).cd) fun i hi => trT_c i hi
    have hR' := RMine.congr HR4.out (g := inF (trT s n rb rf rm m rv).rv) fun i hi => trT_v i hi
    have hts : (trT s n rb rf rm m rv).s = s := rfl
    have htn : (trT s n rb rf rm m rv).n = n := rfl
    have htm : (trT s n rb rf rm m rv).m = m := rfl
    obtain ⟨t, ht⟩ : ∃ t, t = trT s n rb rf rm m rv := ⟨_, rfl⟩
    rw [← ht] at hPK hOk hZ hts htn htm hC' hR'
    have HPK := Lib.hid hPK
    have HOk := Lib.hid hOk
    have HZ : Hid (∀ i, t.n ≤ i → t.cd i = fun _ => 0) := fun i hi => hZ i (by rw [ht] at hi; exact hi)
    have HTS := Lib.hid hts
    have HTN := Lib.hid htn
    have HTM := Lib.hid htm
    have HC5 := Lib.hid hC'
    have HR5 := Lib.hid hR'
    have HPP := Lib.hid hp
    rw [← hp] at hP4
    rw [← hp]
    clear ht hPK hOk hZ hts htn htm hC' hR' HT3 HC3 HR3 HX3 HB3 HC4 HR4 ho4 hp hP3
    go_wp2_with (first | (refine wp_loadAtG rfl 28 (.tmp 9) rfl _ _ _ rfl hP4 Tryd.underlying28 rfl (info_trans _ _ _ _ _ _ _) ?_))
    refine HPK.out.mono ?_
    rintro e w5 ⟨hp, hb5⟩
    have hs5 := hb5.size
    have HT5 := Lib.hid (HT4.out.below hb5 (Nat.le_refl _))
    have HB5 := Lib.hid (HB4.out.trans (hb5.mono (by omega)))
    have HX5 := Lib.hid (HX4.out.below (by intro e; cases e) hb5)
    have HC6 := Lib.hid (RMine.below HC5.out hb5)
    have HR6 := Lib.hid (RMine.below HR5.out hb5)
    have hP5 := hP4.below hb5 hP4.lt
    clear HT4 HB4 HX4 HC5 HR5 HPK hP4 hb5
    rcases hp with ⟨hE, rfl⟩ | ⟨hE, q, rfl, hq, hq5⟩
    · have hcase : packE t = 150 ∨ (packE t = 4 ∧ 255 < sizeOf (n : Int) (m : Int)) := by
        unfold packE at hE ⊢
        by_cases h1 : t.may = true
        · rw [if_pos h1] at hE ⊢
          by_cases h2 : t.size ≤ 255
          · rw [if_pos h2] at hE; exact absurd rfl hE
          · rw [if_neg h2]
            refine .inr ⟨rfl, ?_⟩
            unfold Tr.size at h2
            rw [HTN.out, HTM.out] at h2
            omega
        · rw [if_neg h1]; exact .inl rfl
      rcases hcase with h150 | ⟨h4, hsz⟩
      · rw [h150]
        clear hE h150 hP5
        go_wp2_with fail
        go_ret
        exact ⟨rfl, HB5.out⟩
      · rw [h4]
        clear hE h4 hP5
        go_wp2_with fail
        refine (packSize_any n m w5).mono ?_
        rintro e w6 ⟨rfl, hw6⟩
        obtain rfl : w5 = w6 := hw6
        have hsz' : decide (255 < sizeOf (n : Int) (m : Int)) = true := decide_eq_true hsz
        go_wp2_with fail
        go_ret
        exact ⟨by simp, HB5.out⟩
    · have st0 : Hid (Bh w s t lb n3 rb3 rf3 rm3 p 0 (some ⟨q, 0, none⟩) (t.c + 1) ca cc ra rc ⟨0, undef⟩ w5) := by
        refine ⟨by rw [HTN.out, HTM.out]; exact hP5, ?_, ?_, HX5.out, HT5.out, HB5.out, fun _ => ?_, (fun h => by cases h), (fun h => by cases h)⟩
        · rw [HTN.out]; exact RMine.low HC6.out (by omega)
        · rw [HTM.out]; exact RMine.low HR6.out (by omega)
        · refine RMine.congr (own_raise hq5 (by omega)) fun i hi => ?_
          unfold bkF bhL
          rw [if_pos (by omega)]
      have HE := Lib.hid hE
      have hle := hq5.le
      have hmx : maxLen ≤ 9223372036854775807 := by decide
      have hcs : t.c + 1 ≤ 255 := by
        obtain ⟨h1, h2⟩ := packE_zero hE
        have := size_c h1
        omega
      clear hE HT5 HB5 HX5 HC6 HR6 hP5 hq5
      go_wp2_with fail
      go_loopw [10, 13] (fun u i wr => ∃ (k : Nat) (la' : Option Addr) (lc : Nat), u = .slice la' (t.c + 1 + k) lc ∧ i = .int .i64 (k : Int) ∧ k ≤ n3 ∧ k ≤ 50 ∧ Bh w s t lb n3 rb3 rf3 rm3 p k la' lc ca cc ra rc ⟨0, undef⟩ wr) (fun _ i _ => 50 - (intOf i).toNat)
      case atStart => exact ⟨0, _, _, rfl, rfl, Nat.zero_le _, Nat.zero_le _, st0.out⟩
      case round =>
        clear st0
        obtain ⟨k, la', lc, rfl, rfl, hk3, hk50, st⟩ := hrel
        by_cases hlt : k < n3 ∧ k < 50
        · obtain ⟨hlt3, hlt50⟩ := hlt
          have g1 : (k : Int) < (n3 : Int) := by omega
          have g2 : (k : Int) < 50 := by omega
          have k0 : (0 : Int) ≤ (k : Int) := by omega
          obtain ⟨b, off, rfl, -⟩ : ∃ b off, lb = some ⟨b, off, none⟩ ∧ RSeg wr b off 3 n3 (rwF rb3 rf3 rm3) := by
            rcases st.l with h | h
            · omega
            · exact h
          have HSG : Hid (∀ W, RRow W (some ⟨b, off, none⟩) 3 n3 (rwF rb3 rf3 rm3) → W.rangeAt b (off + k * 3) (rwF rb3 rf3 rm3 k)) := fun W h => by
            rcases h with h | ⟨b', off', e, h⟩
            · omega
            · injection e with e; injection e with e1 e2; subst e1 e2; exact h.range k hlt3
          obtain ⟨i0, hi0, hz⟩ := Option.map_eq_some_iff.1 info_blk3
          simp only [Prod.mk.injEq] at hz
          obtain ⟨hz0, hz1, hz2⟩ := hz
          have rg := HSG.out wr st.l
          go_wp2_with (first | (refine wp_loadMid rfl 51 (.tmp 70) rfl b (off + k * 3) (rwF rb3 rf3 rm3 k) _ rfl rg Tryd.underlying51 rfl (by kernel_rfl) ?_))
          refine (block15_any (rb3 k) (rf3 k) (hf3 k) (rm3 k) wr).mono ?_
          rintro e w6 ⟨rfl, hb6⟩
          obtain ⟨z, hz⟩ : ∃ z, z = rowZ (rf3 k) (rm3 k) := ⟨_, rfl⟩
          rw [← hz]
          have st7 := (st.below hb6).below ((Below.refl w6.heap.size w6).alloc (Nat.le_refl _) (.cells (Ks .u8 256 z).toArray 40))
          have hown := st7.s0 (by decide)
          have hnews : ∀ (i : Nat) (u : Value), (Ks .u8 256 z)[i]? = some u → (w6.alloc (.cells (Ks .u8 256 z).toArray 40)).cell? ((⟨w6.heap.size, 0, none⟩ : Addr).add i) = some u := cells_news w6 (Ks .u8 256 z) _
          have ST7 := Lib.hid st7
          have HZ5 := Lib.hid hz
          have hsz7 := st7.bel.size
          clear st rg hb6 hz st7
          go_wp2_with (first | (refine wpList_slice1 rfl 31 1 0 (.tmp 72) rfl (bval z) rfl _ _ (run_block1 z _) ?_) | (refine wpList_append_own _ rfl (.tmp 67) (.tmp 73) 31 rfl w.heap.size 40 i0 (bval fun _ => 0) 256 256 Tryd.underlying31 hi0 hz0 hz1 hz2 (by simp [Value.cells, Ks]) (by decide) (.slice la' (t.c + 1 + k) lc) (t.c + 1 + k) _ rfl hown ⟨w6.heap.size, 0, none⟩ 1 1 (Ks .u8 256 z) rfl (by simp [Ks]) hnews (Ks_oneL .u8 256 z) (by unfold maxLen; omega) (by omega) (by omega) ?_))
          intro v' w8 ho8 hg8 _
          have st7 := ST7.out
          have hob : ∀ q, (Value.slice la' (t.c + 1 + k) lc).ownBlock = some q → w.heap.size ≤ q := fun q hq => (World.ownsRow.lt hown q hq).1
          have kpt : ∀ {base e size x n a xs}, World.ownsRow (w6.alloc (.cells (Ks .u8 256 z).toArray 40)) base e size (.slice a n x) n xs → e ≠ 40 → World.ownsRow w8 base e size (.slice a n x) n xs := fun {base e size x n a xs} h he => World.ownsRow.kept h hg8 (by
            cases h1 : (Value.slice a n x).ownBlock with
            | none => exact .inl rfl
            | some g => exact .inr (fun e2 => own_ne h hown he h1 e2.symm))
          have hta : Tab w8 := fun i hi => (World.cell?_of_block (w := w6.alloc (.cells (Ks .u8 256 z).toArray 40)) (hg8.block _ st7.ta.lt (fun e => absurd (hob _ e.symm) (by show ¬ w.heap.size ≤ (0 : Nat); omega)))).trans (st7.ta i hi)
          have st9 : Hid (Bh w s t (some ⟨b, off, none⟩) n3 rb3 rf3 rm3 p (k + 1) (some ⟨0, 0, none⟩) 0 ca cc ra rc ⟨3, undef⟩ w8) :=
            ⟨AtGrown st7.t hg8 (at_own_ne st7.t hown (by decide)), kpt st7.c (by decide), kpt st7.v (by decide), RRowG st7.l hg8 (fun b' off' e h0 => ⟨by have := HLB.out b' off' e h0; have := st7.bel.size; omega, fun e2 => by have := hob _ e2; have := HLB.out b' off' e h0; omega⟩), hta, st7.bel.grown hg8 st7.bel.size (fun q e => hob q e), (fun h => absurd h (by show ¬ (3 : Nat) < 2; decide)), (fun h => by cases h), (fun h => by cases h)⟩
          obtain ⟨la9, lc9, rfl⟩ : ∃ a x, v' = .slice a (t.c + 1 + k + 1) x := by
            rcases ho8.2 with ⟨_, h0⟩ | ⟨g, cap, cur, rfl, _⟩
            · omega
            · exact ⟨_, _, rfl⟩
          have hl9 : RMine w8 w.heap.size 40 256 (.slice la9 (t.c + 1 + (k + 1)) lc9) (t.c + 1 + (k + 1)) (bkF (bhL t rf3 rm3)) := by
            have h1 := RMine.append (f := bkF (bhL t rf3 rm3)) ho8 (by
              show Ks .u8 256 z = Cs (fun i => bkF (bhL t rf3 rm3) (t.c + 1 + k + i)) 1
              have : bkF (bhL t rf3 rm3) (t.c + 1 + k + 0) = Ks .u8 256 z := by
                unfold bkF bhL
                rw [if_neg (by omega), show t.c + 1 + k + 0 - (t.c + 1) = k by omega, HZ5.out]
              rw [Cs_succ, this]; rfl)
            exact h1
          have stA : Hid (Bh w s t (some ⟨b, off, none⟩) n3 rb3 rf3 rm3 p (k + 1) la9 lc9 ca cc ra rc ⟨0, undef⟩ w8) :=
            ⟨st9.out.t, st9.out.c, st9.out.v, st9.out.l, st9.out.ta, st9.out.bel, fun _ => hl9, (fun h => by cases h), (fun h => by cases h)⟩
          clear ho8 hg8 hown hnews st7 ST7 hob kpt hta hl9 st9
          go_wp2_with fail
          go_roundw
          case rel => first | exact ⟨k + 1, la9, lc9, rfl, by go_num, by omega, by omega, stA.out⟩ | exact ⟨k + 1, la9, lc9, rfl, rfl, by omega, by omega, stA.out⟩
          case measure => simp [intOf]; omega
        · have gg : ¬ ((k : Int) < (n3 : Int) ∧ (k : Int) < 50) := by omega
          have hl9 := st.s0 (by decide)
          have ST := Lib.hid st
          have hsz9 := st.bel.size
          have hcap := rcap hl9
          have hseq : 1 ≤ s ∧ s ≤ 2147483648 := by
            obtain ⟨h1, _⟩ := packE_zero HE.out
            obtain ⟨h2, _⟩ := t.may_iff.1 h1
            rw [HTS.out] at h2
            exact seqB_bd h2
          have hw1 : IntKind.u32.wrap (s + 1) = s + 1 := IntWalk.u32_in _ (by omega)
          have hu1 : unp (bhL t rf3 rm3) (t.c + 1 + k) s = some (t, t.c + 1) := by
            have := unp_pack (L := bhL t rf3 rm3) (N := t.c + 1 + k) HOk.out HZ.out HE.out (by omega) (fun i hi => by unfold bhL; rw [if_pos hi])
            rwa [HTS.out] at this
          have hu2 : unp (bhL t rf3 rm3) (t.c + 1 + k) (s + 1) = none := unp_other (L := bhL t rf3 rm3) HOk.out HE.out (by unfold bhL; rw [if_pos (Nat.zero_le _)]) (by rw [HTS.out]; omega)
          have HU1 := Lib.hid hu1
          have HU2 := Lib.hid hu2
          have hmx2 : (lc : Int) ≤ 9223372036854775807 := by
            rcases RMine.form' hl9 (by omega) with ⟨g, cp, hv, _, _, _, hc⟩
            injection hv with e1 e2 e3
            omega
          clear st hu1 hu2
          by_cases hq1 : k < n3
          · have g1 : (k : Int) < (n3 : Int) := by omega
            have g2 : ¬ (k : Int) < 50 := by omega
            go_wp2_with fail
            refine (unpack_any la' (t.c + 1 + k) lc (bhL t rf3 rm3) (bhL_byt HOk.out hf3) s hs hcap hmx2 wr ST.out.ta (RMine.row hl9 (bkF_len _)) (fun b off e => (World.ownsRow.lt hl9 b (by rw [e]; rfl)).2)).mono ?_
            rintro e w5 ⟨hp, hb5⟩
            rcases hp with ⟨hn0, _⟩ | ⟨t', u, ca2, cc2, ra2, rc2, h, rfl, hC, hR⟩
            · rw [HU1.out] at hn0; cases hn0
            rw [HU1.out] at h
            injection h with h
            injection h with e1 e2
            subst e1 e2
            have ST5 := Lib.hid (ST.out.below hb5)
            have HC2 := Lib.hid hC
            have HR2 := Lib.hid hR
            have hP5 := At.new w5 28 (tcells 0 none 0 0 none 0 0)
            have hs5 := hb5.size
            have hL5 : Below w5.heap.size w5 (w5.alloc (.cells (tcells 0 none 0 0 none 0 0) 28)) := (Below.refl _ _).alloc (Nat.le_refl _) _
            clear hC hR hb5 ST hl9
            go_wp2_with (first | (refine wp_storeAt rfl 28 (.tmp 14) (.tmp 79) rfl w5.heap.size (tcells s ca2 t.n cc2 ra2 t.m rc2) _ rfl rfl hP5 (info_trans 0 none 0 0 none 0 0) rfl (by kernel_rfl) ?_))
            intro w6 hP6 ho6
            have hL6 := hL5.trans (ho6.below (Nat.le_refl _))
            have ST6 := Lib.hid (ST5.out.below hL6)
            have HC6 := Lib.hid (RMine.below HC2.out hL6)
            have HR6 := Lib.hid (RMine.below HR2.out hL6)
            have hs6 := hL6.size
            have hl6 := ST6.out.s0 (by decide)
            clear ho6 hL5 hL6 HC2 HR2 ST5 hP5
            go_wp2_with fail
            refine (unpack_any la' (t.c + 1 + k) lc (bhL t rf3 rm3) (bhL_byt HOk.out hf3) (s + 1) (by omega) hcap hmx2 w6 ST6.out.ta (RMine.row hl6 (bkF_len _)) (fun b off e => (World.ownsRow.lt hl6 b (by rw [e]; rfl)).2)).mono ?_
            rintro e w7 ⟨hp, hb7⟩
            rcases hp with ⟨_, rfl⟩ | ⟨t', u, ca3, cc3, ra3, rc3, h, _⟩
            rotate_left
            · rw [HU2.out] at h; cases h
            have hP7 := hP6.below hb7 hP6.lt
            have ST7 := Lib.hid (ST6.out.below hb7)
            have HC7 := Lib.hid (RMine.below HC6.out hb7)
            have HR7 := Lib.hid (RMine.below HR6.out hb7)
            have hs7 := hb7.size
            have hL7 : Below w7.heap.size w7 (w7.alloc (.cells (tcells 0 none 0 0 none 0 0) 28)) := (Below.refl _ _).alloc (Nat.le_refl _) _
            have hQ7 := At.new w7 28 (tcells 0 none 0 0 none 0 0)
            have hlt7 := hP7.lt
            clear hP6 ST6 HC6 HR6 hb7 hl6
            go_wp2_with (first | (refine wp_storeAt rfl 28 (.tmp 17) (.tmp 87) rfl w7.heap.size (tcells 0 none 0 0 none 0 0) _ rfl rfl hQ7 (info_trans 0 none 0 0 none 0 0) rfl (by kernel_rfl) ?_))
            intro w8 hQ8 ho8
            have hL8 := hL7.trans (ho8.below (Nat.le_refl _))
            have ST8 := ST7.out.below hL8
            have hP8 := hP7.below hL8 hlt7
            have HC8 := Lib.hid (RMine.below HC7.out hL8)
            have HR8 := Lib.hid (RMine.below HR7.out hL8)
            have hT8 := ST8.t
            have HST8 := Lib.hid ST8
            have hsz : sizeOf (n : Int) (m : Int) = ((t.c + 1 : Nat) : Int) := by
              obtain ⟨h1, _⟩ := packE_zero HE.out
              have := size_c h1
              unfold Tr.size at this
              rw [HTN.out, HTM.out] at this
              omega
            have HSZ := Lib.hid hsz
            clear ho8 hL8 hL7 hQ7 hQ8 ST7 HC7 HR7 hP7 ST8 hsz
            go_wp2_with fail
            refine (packSize_any n m w8).mono ?_
            rintro e w9 ⟨rfl, hw9⟩
            obtain rfl : w8 = w9 := hw9
            rw [HSZ.out]
            have q5 : (((t.c + 1 : Nat) : Int) == ((t.c + 1 : Nat) : Int)) = true := beq_self_eq_true _
            go_wp2_with (first | (refine wp_loadAtG rfl 28 (.tmp 9) rfl _ _ _ rfl hT8 Tryd.underlying28 rfl (info_trans _ _ _ _ _ _ _) ?_) | (refine wp_loadAtG rfl 28 (.tmp 14) rfl _ _ _ rfl hP8 Tryd.underlying28 rfl (info_trans _ _ _ _ _ _ _) ?_))
            refine (same15_any s t.n t.m t.cb t.cd t.rv ca cc ra rc ca2 cc2 ra2 rc2 (by rw [HTN.out]; omega) (by rw [HTM.out]; omega) w8 (RMine.row HST8.out.c (cpF_len _ _)) (RMine.row HC8.out (cpF_len _ _)) (RMine.row HST8.out.v (inF_len _)) (RMine.row HR8.out (inF_len _))).mono ?_
            rintro e wf ⟨rfl, hbf⟩
            have HBF := Lib.hid (HST8.out.bel.trans (hbf.mono HST8.out.bel.size))
            clear hbf
            go_wp2_with fail
            go_ret
            exact ⟨rfl, HBF.out⟩
          · have g1 : ¬ (k : Int) < (n3 : Int) := by omega
            go_wp2_with fail
            refine (unpack_any la' (t.c + 1 + k) lc (bhL t rf3 rm3) (bhL_byt HOk.out hf3) s hs hcap hmx2 wr ST.out.ta (RMine.row hl9 (bkF_len _)) (fun b off e => (World.ownsRow.lt hl9 b (by rw [e]; rfl)).2)).mono ?_
            rintro e w5 ⟨hp, hb5⟩
            rcases hp with ⟨hn0, _⟩ | ⟨t', u, ca2, cc2, ra2, rc2, h, rfl, hC, hR⟩
            · rw [HU1.out] at hn0; cases hn0
            rw [HU1.out] at h
            injection h with h
            injection h with e1 e2
            subst e1 e2
            have ST5 := Lib.hid (ST.out.below hb5)
            have HC2 := Lib.hid hC
            have HR2 := Lib.hid hR
            have hP5 := At.new w5 28 (tcells 0 none 0 0 none 0 0)
            have hs5 := hb5.size
            have hL5 : Below w5.heap.size w5 (w5.alloc (.cells (tcells 0 none 0 0 none 0 0) 28)) := (Below.refl _ _).alloc (Nat.le_refl _) _
            clear hC hR hb5 ST hl9
            go_wp2_with (first | (refine wp_storeAt rfl 28 (.tmp 14) (.tmp 79) rfl w5.heap.size (tcells s ca2 t.n cc2 ra2 t.m rc2) _ rfl rfl hP5 (info_trans 0 none 0 0 none 0 0) rfl (by kernel_rfl) ?_))
            intro w6 hP6 ho6
            have hL6 := hL5.trans (ho6.below (Nat.le_refl _))
            have ST6 := Lib.hid (ST5.out.below hL6)
            have HC6 := Lib.hid (RMine.below HC2.out hL6)
            have HR6 := Lib.hid (RMine.below HR2.out hL6)
            have hs6 := hL6.size
            have hl6 := ST6.out.s0 (by decide)
            clear ho6 hL5 hL6 HC2 HR2 ST5 hP5
            go_wp2_with fail
            refine (unpack_any la' (t.c + 1 + k) lc (bhL t rf3 rm3) (bhL_byt HOk.out hf3) (s + 1) (by omega) hcap hmx2 w6 ST6.out.ta (RMine.row hl6 (bkF_len _)) (fun b off e => (World.ownsRow.lt hl6 b (by rw [e]; rfl)).2)).mono ?_
            rintro e w7 ⟨hp, hb7⟩
            rcases hp with ⟨_, rfl⟩ | ⟨t', u, ca3, cc3, ra3, rc3, h, _⟩
            rotate_left
            · rw [HU2.out] at h; cases h
            have hP7 := hP6.below hb7 hP6.lt
            have ST7 := Lib.hid (ST6.out.below hb7)
            have HC7 := Lib.hid (RMine.below HC6.out hb7)
            have HR7 := Lib.hid (RMine.below HR6.out hb7)
            have hs7 := hb7.size
            have hL7 : Below w7.heap.size w7 (w7.alloc (.cells (tcells 0 none 0 0 none 0 0) 28)) := (Below.refl _ _).alloc (Nat.le_refl _) _
            have hQ7 := At.new w7 28 (tcells 0 none 0 0 none 0 0)
            have hlt7 := hP7.lt
            clear hP6 ST6 HC6 HR6 hb7 hl6
            go_wp2_with (first | (refine wp_storeAt rfl 28 (.tmp 17) (.tmp 87) rfl w7.heap.size (tcells 0 none 0 0 none 0 0) _ rfl rfl hQ7 (info_trans 0 none 0 0 none 0 0) rfl (by kernel_rfl) ?_))
            intro w8 hQ8 ho8
            have hL8 := hL7.trans (ho8.below (Nat.le_refl _))
            have ST8 := ST7.out.below hL8
            have hP8 := hP7.below hL8 hlt7
            have HC8 := Lib.hid (RMine.below HC7.out hL8)
            have HR8 := Lib.hid (RMine.below HR7.out hL8)
            have hT8 := ST8.t
            have HST8 := Lib.hid ST8
            have hsz : sizeOf (n : Int) (m : Int) = ((t.c + 1 : Nat) : Int) := by
              obtain ⟨h1, _⟩ := packE_zero HE.out
              have := size_c h1
              unfold Tr.size at this
              rw [HTN.out, HTM.out] at this
              omega
            have HSZ := Lib.hid hsz
            clear ho8 hL8 hL7 hQ7 hQ8 ST7 HC7 HR7 hP7 ST8 hsz
            go_wp2_with fail
            refine (packSize_any n m w8).mono ?_
            rintro e w9 ⟨rfl, hw9⟩
            obtain rfl : w8 = w9 := hw9
            rw [HSZ.out]
            have q5 : (((t.c + 1 : Nat) : Int) == ((t.c + 1 : Nat) : Int)) = true := beq_self_eq_true _
            go_wp2_with (first | (refine wp_loadAtG rfl 28 (.tmp 9) rfl _ _ _ rfl hT8 Tryd.underlying28 rfl (info_trans _ _ _ _ _ _ _) ?_) | (refine wp_loadAtG rfl 28 (.tmp 14) rfl _ _ _ rfl hP8 Tryd.underlying28 rfl (info_trans _ _ _ _ _ _ _) ?_))
            refine (same15_any s t.n t.m t.cb t.cd t.rv ca cc ra rc ca2 cc2 ra2 rc2 (by rw [HTN.out]; omega) (by rw [HTM.out]; omega) w8 (RMine.row HST8.out.c (cpF_len _ _)) (RMine.row HC8.out (cpF_len _ _)) (RMine.row HST8.out.v (inF_len _)) (RMine.row HR8.out (inF_len _))).mono ?_
            rintro e wf ⟨rfl, hbf⟩
            have HBF := Lib.hid (HST8.out.bel.trans (hbf.mono HST8.out.bel.size))
            clear hbf
            go_wp2_with fail
            go_ret
            exact ⟨rfl, HBF.out⟩
end Go.Proofs.YthkalmdpbhjafaaDoor
