/- PackTwo. -/
import Derived.Test.YthkalmdpbhjafaaDoorWPb
namespace Go.Proofs.YthkalmdpbhjafaaDoor
open Go.RowKit
set_option linter.unusedVariables false

/-- two transactions' blocks, one behind the other -/
def twL (t u : Tr) (j : Nat) : Nat → Int := if j ≤ t.c then pkB t j else pkB u (j - (t.c + 1))
theorem twL_byt {t u : Tr} (ht : t.Ok) (hu : u.Ok) (j : Nat) : Byt (twL t u j) := by
  unfold twL; split
  · exact pkB_byt t ht _
  · exact pkB_byt u hu _
/-- both transactions stand -/
structure Tw (w : World) (s : Int) (T U : Tr) (p p' : Nat) (ca : Option Addr) (cc : Nat) (ra : Option Addr) (rc : Nat) (ca' : Option Addr) (cc' : Nat) (ra' : Option Addr) (rc' : Nat) (W : World) : Prop where
  t : At W p 28 (tcells s ca T.n cc ra T.m rc)
  u : At W p' 28 (tcells (s + 1) ca' U.n cc' ra' U.m rc')
  c : RMine W (w.heap.size + 1) 61 257 (.slice ca T.n cc) T.n (cpF T.cb T.cd)
  v : RMine W (w.heap.size + 1) 3 1 (.slice ra T.m rc) T.m (inF T.rv)
  c' : RMine W (w.heap.size + 1) 61 257 (.slice ca' U.n cc') U.n (cpF U.cb U.cd)
  v' : RMine W (w.heap.size + 1) 3 1 (.slice ra' U.m rc') U.m (inF U.rv)
  ta : Tab W
  bel : Below w.heap.size w W
theorem Tw.below {w : World} {s : Int} {T U : Tr} {p p' : Nat} {ca : Option Addr} {cc : Nat} {ra : Option Addr} {rc : Nat} {ca' : Option Addr} {cc' : Nat} {ra' : Option Addr} {rc' : Nat} {W W' : World} (h : Tw w s T U p p' ca cc ra rc ca' cc' ra' rc' W) (hb : Below W.heap.size W W') : Tw w s T U p p' ca cc ra rc ca' cc' ra' rc' W' :=
  ⟨h.t.below hb h.t.lt, h.u.below hb h.u.lt, RMine.below h.c hb, RMine.below h.v hb, RMine.below h.c' hb, RMine.below h.v' hb, h.ta.below hb (Nat.le_refl _), h.bel.trans (hb.mono h.bel.size)⟩

theorem Tw.grown {w : World} {s : Int} {T U : Tr} {p p' : Nat} {ca : Option Addr} {cc : Nat} {ra : Option Addr} {rc : Nat} {ca' : Option Addr} {cc' : Nat} {ra' : Option Addr} {rc' : Nat} {W W' : World} (h : Tw w s T U p p' ca cc ra rc ca' cc' ra' rc' W) (hTl : 0 < w.heap.size) {v : Value} {k : Nat} {xs : List Value} (ho : W.ownsRow w.heap.size 40 256 v k xs) (hg : W.grownBy W' v.ownBlock) : Tw w s T U p p' ca cc ra rc ca' cc' ra' rc' W' := by
  have hob : ∀ q, v.ownBlock = some q → w.heap.size ≤ q := fun q hq => (World.ownsRow.lt ho q hq).1
  have kpt : ∀ {base e size x n a xs}, World.ownsRow W base e size (.slice a n x) n xs → e ≠ 40 → World.ownsRow W' base e size (.slice a n x) n xs := fun {base e size x n a xs} h he => World.ownsRow.kept h hg (by
    cases h1 : (Value.slice a n x).ownBlock with
    | none => exact .inl rfl
    | some g => exact .inr (fun e2 => own_ne h ho he h1 e2.symm))
  exact ⟨AtGrown h.t hg (at_own_ne h.t ho (by decide)), AtGrown h.u hg (at_own_ne h.u ho (by decide)), kpt h.c (by decide), kpt h.v (by decide), kpt h.c' (by decide), kpt h.v' (by decide),
    fun i hi => (World.cell?_of_block (w := W) (hg.block _ h.ta.lt (fun e => absurd (hob _ e.symm) (by show ¬ w.heap.size ≤ (0 : Nat); omega)))).trans (h.ta i hi), h.bel.grown hg h.bel.size (fun q e => hob q e)⟩

set_option maxRecDepth 100000 in
theorem run_dropB (g off len cap k : Nat) (K : Int) (hK : K = (k : Int)) (hk : k ≤ len) (hc : k < cap) (w : World) :
    (Instr.slice 31 (.slice (some ⟨g, off, none⟩) len cap) (some (.int .i64 K)) none none).run Tryd.prog w = .ok (.slice (some ⟨g, off + k * 256, none⟩) (len - k) (cap - k)) w := by
  subst hK
  have hsz : (Go.sizeOf 40).run Tryd.prog w = .ok 256 w := by kernel_rfl
  rw [run_slice_l w 31 _ len cap (by kernel_rfl) .i64 (k : Int) (by omega) (by omega), show Tryd.prog.elem 31 = 40 from by kernel_rfl, hsz]
  simp only [Result.andThen, sliced, Int.toNat_natCast]
  rw [if_neg (by omega), Option.map_some, addr_add]
theorem twL_lo {t u : Tr} (i : Nat) (hi : i ≤ t.c) : twL t u i = pkB t i := by unfold twL; rw [if_pos hi]
theorem twL_hi {t u : Tr} (i : Nat) : twL t u (t.c + 1 + i) = pkB u i := by unfold twL; rw [if_neg (by omega), show t.c + 1 + i - (t.c + 1) = i by omega]

set_option maxRecDepth 100000 in
set_option maxHeartbeats 8000000 in
theorem packTwo_walk (s : Int) (hs : 0 ≤ s ∧ s < 4294967296) (la : Option Addr) (n lcap : Nat) (rb rf : Nat → Int) (rm : Nat → Bool) (c : Option Addr) (m cap : Nat) (rv : Nat → Int) (hi : In15 n rb rf m cap rv c) (lb : Option Addr) (n2 bcap : Nat) (rb2 rf2 : Nat → Int) (rm2 : Nat → Bool) (c2 : Option Addr) (m2 cap2 : Nat) (rv2 : Nat → Int) (hi2 : In15 n2 rb2 rf2 m2 cap2 rv2 c2) (w : World) (hT : Tab w)
    (hl : RRow w la 3 n (rwF rb rf rm)) (hr : RRow w c 1 m (inF rv)) (hla : ∀ b off, la = some ⟨b, off, none⟩ → 0 < n → b < w.heap.size) (hl2 : RRow w lb 3 n2 (rwF rb2 rf2 rm2)) (hr2 : RRow w c2 1 m2 (inF rv2)) (hlb : ∀ b off, lb = some ⟨b, off, none⟩ → 0 < n2 → b < w.heap.size) :
    Calls Tryd.prog 8 #[.int .u32 s, .slice la n lcap, .slice c m cap, .slice lb n2 bcap, .slice c2 m2 cap2] w fun e w' => e = .returned (.bool true) ∧ Below w.heap.size w w' := by
  have halt := zero_trans
  have hTl := hT.lt
  have HI := Lib.hid hi
  have HI2 := Lib.hid hi2
  have HLA : Hid (∀ b off, la = some ⟨b, off, none⟩ → 0 < n → b < w.heap.size) := hla
  have HLB : Hid (∀ b off, lb = some ⟨b, off, none⟩ → 0 < n2 → b < w.heap.size) := hlb
  have HL := Lib.hid hl
  have HR := Lib.hid hr
  have HL2 := Lib.hid hl2
  have HR2 := Lib.hid hr2
  have HT := Lib.hid hT
  clear hl hr hla hi hT hl2 hr2 hlb hi2
  go_enter Tryd.func8, Tryd.ntmps8
  go_wp2_with fail
  refine (awake15 w HT.out).mono ?_
  rintro e w1 ⟨rfl, hb1⟩
  have hs1 := hb1.size
  go_wp2_with fail
  refine (great_any la c n m lcap cap w1).mono ?_
  rintro e w2 ⟨rfl, hw2⟩
  obtain rfl : w1 = w2 := hw2.symm
  clear hw2
  cases hg : greatB n m with
  | true =>
    clear hg
    go_wp2_with fail
    go_ret
    exact ⟨rfl, hb1⟩
  | false =>
    have hnm : n ≤ 400 ∧ m ≤ 3000 := by
      unfold greatB at hg
      rw [Bool.or_eq_false_iff, decide_eq_false_iff_not, decide_eq_false_iff_not] at hg
      omega
    obtain ⟨hn, hm⟩ := hnm
    clear hg
    go_wp2_with fail
    refine (great_any lb c2 n2 m2 bcap cap2 w1).mono ?_
    rintro e w2 ⟨rfl, hw2⟩
    obtain rfl : w1 = w2 := hw2.symm
    clear hw2
    cases hg : greatB n2 m2 with
    | true =>
      clear hg
      go_wp2_with fail
      go_ret
      exact ⟨rfl, hb1⟩
    | false =>
      have hnm : n2 ≤ 400 ∧ m2 ≤ 3000 := by
        unfold greatB at hg
        rw [Bool.or_eq_false_iff, decide_eq_false_iff_not, decide_eq_false_iff_not] at hg
        omega
      obtain ⟨hn2, hm2⟩ := hnm
      clear hg
      by_cases hs0 : s < 1
      · go_wp2_with fail
        go_ret
        exact ⟨by simp, hb1⟩
      by_cases hs9 : 2147483648 ≤ s
      · go_wp2_with fail
        go_ret
        exact ⟨by simp, hb1⟩
      have hs0' : 1 ≤ s := by omega
      have hs9' : s < 2147483648 := by omega
      have hw1 : IntKind.u32.wrap (s + 1) = s + 1 := IntWalk.u32_in _ (by omega)
      have HL1 := Lib.hid (HL.out.below (by intro e; cases e) hb1)
      have HR1 := Lib.hid (HR.out.below (by intro e; cases e) hb1)
      have HX1 := Lib.hid (HL2.out.below (by intro e; cases e) hb1)
      have HY1 := Lib.hid (HR2.out.below (by intro e; cases e) hb1)
      have HT1 := Lib.hid (HT.out.below hb1 (Nat.le_refl _))
      have HB1 := Lib.hid hb1
      clear HL HR HT HL2 HR2 hb1
      go_wp2_with fail
      refine (trans15_any s hs la n lcap rb rf rm HI.out.f c m cap rv hn hm HI.out.no w1 HL1.out HR1.out (fun b off e h0 => by have := HLA.out b off e h0; omega)).mono ?_
      rintro e w3 ⟨ca, cc, ra, rc, rfl, hC, hR, hb3⟩
      have HT3 := Lib.hid (HT1.out.below hb3 (Nat.le_refl _))
      have HX3 := Lib.hid (HX1.out.below (by intro e; cases e) hb3)
      have HY3 := Lib.hid (HY1.out.below (by intro e; cases e) hb3)
      have HB3 := Lib.hid (HB1.out.trans (hb3.mono hs1))
      have hs3 := hb3.size
      have HC3 := Lib.hid hC
      have HR3 := Lib.hid hR
      clear hC hR hb3 HT1 HX1 HY1 HB1 HL1 HR1
      go_wp2_with fail
      refine (trans15_any (s + 1) (by omega) lb n2 bcap rb2 rf2 rm2 HI2.out.f c2 m2 cap2 rv2 hn2 hm2 HI2.out.no w3 HX3.out HY3.out (fun b off e h0 => by have := HLB.out b off e h0; omega)).mono ?_
      rintro e w4 ⟨ca', cc', ra', rc', rfl, hC, hR, hb4⟩
      have HT4 := Lib.hid (HT3.out.below hb4 (Nat.le_refl _))
      have HB4 := Lib.hid (HB3.out.trans (hb4.mono (by omega)))
      have hs4 := hb4.size
      have HC4 := Lib.hid (RMine.below HC3.out hb4)
      have HR4 := Lib.hid (RMine.below HR3.out hb4)
      have HC5 := Lib.hid hC
      have HR5 := Lib.hid hR
      clear hC hR hb4 HT3 HB3 HC3 HR3 HX3 HY3
      have hP1 := (At.new w4 28 (tcells 0 none 0 0 none 0 0)).alloc (.cells (tcells 0 none 0 0 none 0 0) 28)
      have hP2 := At.new (w4.alloc (.cells (tcells 0 none 0 0 none 0 0) 28)) 28 (tcells 0 none 0 0 none 0 0)
      have hL5 : Below w4.heap.size w4 ((w4.alloc (.cells (tcells 0 none 0 0 none 0 0) 28)).alloc (.cells (tcells 0 none 0 0 none 0 0) 28)) := ((Below.refl _ _).alloc (Nat.le_refl _) _).alloc (by simp) _
      rw [World.size_alloc] at hP2
      go_wp2_with (first | (refine wp_storeAt rfl 28 (.tmp 11) (.tmp 48) rfl w4.heap.size (tcells s ca n cc ra m rc) _ rfl rfl hP1 (info_trans 0 none 0 0 none 0 0) rfl (by kernel_rfl) ?_))
      intro w5 hP5 ho5
      have hQ5 := hP2.only ho5 (by omega)
      have hL6 := hL5.trans (ho5.below (Nat.le_refl _))
      clear hP1 hP2 ho5 hL5
      go_wp2_with (first | (refine wp_storeAt rfl 28 (.tmp 12) (.tmp 53) rfl (w4.heap.size + 1) (tcells (s + 1) ca' n2 cc' ra' m2 rc') _ rfl rfl hQ5 (info_trans 0 none 0 0 none 0 0) rfl (by kernel_rfl) ?_))
      intro w6 hQ6 ho6
      have hP6 := hP5.only ho6 (by omega)
      have hL7 := hL6.trans (ho6.below (by omega))
      have hs7 := hL7.size
      obtain ⟨p, hp⟩ : ∃ p, p = w4.heap.size := ⟨_, rfl⟩
      obtain ⟨p', hp'⟩ : ∃ p', p' = w4.heap.size + 1 := ⟨_, rfl⟩
      rw [← hp] at hP6
      rw [← hp'] at hQ6
      have hC' := RMine.congr (RMine.below HC4.out hL7) (g := cpF (trT s n rb rf rm m rv).cb (trT s n rb rf rm m rv).cd) fun i hi => trT_c i hi
      have hR' := RMine.congr (RMine.below HR4.out hL7) (g := inF (trT s n rb rf rm m rv).rv) fun i hi => trT_v i hi
      have hC2' := RMine.congr (RMine.below HC5.out hL7) (g := cpF (trT (s + 1) n2 rb2 rf2 rm2 m2 rv2).cb (trT (s + 1) n2 rb2 rf2 rm2 m2 rv2).cd) fun i hi => trT_c i hi
      have hR2' := RMine.congr (RMine.below HR5.out hL7) (g := inF (trT (s + 1) n2 rb2 rf2 rm2 m2 rv2).rv) fun i hi => trT_v i hi
      have hOk := trT_ok (n := n) (m := m) (rm := rm) hs HI.out.b HI.out.f HI.out.v hn hm
      have hOk2 := trT_ok (s := s + 1) (n := n2) (m := m2) (rm := rm2) (by omega) HI2.out.b HI2.out.f HI2.out.v hn2 hm2
      have hZ := fun i hi => trT_z (s := s) (n := n) (rb := rb) (rf := rf) (rm := rm) (m := m) (rv := rv) i hi
      have hZ2 := fun i hi => trT_z (s := s + 1) (n := n2) (rb := rb2) (rf := rf2) (rm := rm2) (m := m2) (rv := rv2) i hi
      have hts : (trT s n rb rf rm m rv).s = s ∧ (trT s n rb rf rm m rv).n = n ∧ (trT s n rb rf rm m rv).m = m := ⟨rfl, rfl, rfl⟩
      have hts2 : (trT (s + 1) n2 rb2 rf2 rm2 m2 rv2).s = s + 1 ∧ (trT (s + 1) n2 rb2 rf2 rm2 m2 rv2).n = n2 ∧ (trT (s + 1) n2 rb2 rf2 rm2 m2 rv2).m = m2 := ⟨rfl, rfl, rfl⟩
      obtain ⟨t, ht⟩ : ∃ t, t = trT s n rb rf rm m rv := ⟨_, rfl⟩
      obtain ⟨u, hu⟩ : ∃ u, u = trT (s + 1) n2 rb2 rf2 rm2 m2 rv2 := ⟨_, rfl⟩
      rw [← ht] at hOk hZ hts hC' hR'
      rw [← hu] at hOk2 hZ2 hts2 hC2' hR2'
      obtain ⟨hs_, hn_, hm_⟩ := hts
      obtain ⟨hs2_, hn2_, hm2_⟩ := hts2
      have HZ : Hid (∀ i, t.n ≤ i → t.cd i = fun _ => 0) := fun i hi => hZ i (by rw [ht] at hi; exact hi)
      have HZ2 : Hid (∀ i, u.n ≤ i → u.cd i = fun _ => 0) := fun i hi => hZ2 i (by rw [hu] at hi; exact hi)
      have ST : Hid (Tw w s t u p p' ca cc ra rc ca' cc' ra' rc' w6) := by
        refine ⟨by rw [hn_, hm_]; exact hP6, by rw [hn2_, hm2_]; exact hQ6, ?_, ?_, ?_, ?_, HT4.out.below hL7 (Nat.le_refl _), HB4.out.trans (hL7.mono (by omega))⟩
        · rw [hn_]; exact RMine.low hC' (by omega)
        · rw [hm_]; exact RMine.low hR' (by omega)
        · rw [hn2_]; exact RMine.low hC2' (by omega)
        · rw [hm2_]; exact RMine.low hR2' (by omega)
      have HOk := Lib.hid hOk
      have HOk2 := Lib.hid hOk2
      have HTS := Lib.hid hs_
      have HTS2 := Lib.hid hs2_
      have htn : t.n ≤ 400 := by omega
      have htm : t.m ≤ 3000 := by omega
      have hun : u.n ≤ 400 := by omega
      have hum : u.m ≤ 3000 := by omega
      rw [← hp', ← hp]
      clear ht hu hOk hOk2 hZ hZ2 hs_ hs2_ hn_ hm_ hn2_ hm2_ hC' hR' hC2' hR2' hP5 hP6 hQ5 hQ6 ho6 hL6 hL7 hp hp' HT4 HB4 HC4 HR4 HC5 HR5
      have hTt := ST.out.t
      go_wp2_with (first | (refine wp_loadAtG rfl 28 (.tmp 11) rfl _ _ _ rfl hTt Tryd.underlying28 rfl (info_trans _ _ _ _ _ _ _) ?_))
      have hpk1 := pack_any t HOk.out ca cc ra rc w6 ST.out.ta (RMine.row ST.out.c (cpF_len _ _)) (RMine.row ST.out.v (inF_len _)) (fun b off e => (World.ownsRow.lt ST.out.c b (by rw [e]; rfl)).2) (fun b off e => (World.ownsRow.lt ST.out.v b (by rw [e]; rfl)).2) (rcap ST.out.c) (rcap ST.out.v)
      rw [HTS.out] at hpk1
      refine hpk1.mono ?_
      rintro e w7 ⟨hp1, hb7⟩
      clear hpk1 hTt
      have ST7 := Lib.hid (ST.out.below hb7)
      have hTu := ST7.out.u
      have hpk2 := pack_any u HOk2.out ca' cc' ra' rc' w7 ST7.out.ta (RMine.row ST7.out.c' (cpF_len _ _)) (RMine.row ST7.out.v' (inF_len _)) (fun b off e => (World.ownsRow.lt ST7.out.c' b (by rw [e]; rfl)).2) (fun b off e => (World.ownsRow.lt ST7.out.v' b (by rw [e]; rfl)).2) (rcap ST7.out.c') (rcap ST7.out.v')
      rw [HTS2.out] at hpk2
      have HPK2 := Lib.hid hpk2
      clear hpk2 ST
      rcases hp1 with ⟨hE, rfl⟩ | ⟨hE, q, rfl, hq, hq7⟩
      · have qE : (packE t == 0) = false := by rw [beq_eq_false_iff_ne]; exact hE
        have qE' : (packE t != 0) = true := by rw [bne, qE]; rfl
        clear hE
        go_wp2_with (first | (refine wp_loadAtG rfl 28 (.tmp 12) rfl _ _ _ rfl hTu Tryd.underlying28 rfl (info_trans _ _ _ _ _ _ _) ?_))
        refine HPK2.out.mono ?_
        rintro e w8 ⟨hp2, hb8⟩
        have HB8 := Lib.hid (ST7.out.bel.trans (hb8.mono ST7.out.bel.size))
        rcases hp2 with ⟨_, rfl⟩ | ⟨_, q2, rfl, _, _⟩
        · clear hTu hb7 hb8
          go_wp2_with fail
          go_ret
          exact ⟨rfl, HB8.out⟩
        · clear hTu hb7 hb8
          go_wp2_with fail
          go_ret
          exact ⟨rfl, HB8.out⟩
      · have HE := Lib.hid hE
        have HQ7 := Lib.hid hq7
        clear hE hq7 hb7
        go_wp2_with (first | (refine wp_loadAtG rfl 28 (.tmp 12) rfl _ _ _ rfl hTu Tryd.underlying28 rfl (info_trans _ _ _ _ _ _ _) ?_))
        refine HPK2.out.mono ?_
        rintro e w8 ⟨hp2, hb8⟩
        have ST8 := Lib.hid (ST7.out.below hb8)
        have HQ8 := Lib.hid (HQ7.out.below hb8)
        have hs8 := hb8.size
        clear hTu hb8 ST7 HQ7 HPK2
        rcases hp2 with ⟨hE2, rfl⟩ | ⟨hE2, q2, rfl, hq2, hq82⟩
        · have qE : (packE u == 0) = false := by rw [beq_eq_false_iff_ne]; exact hE2
          have qE' : (packE u != 0) = true := by rw [bne, qE]; rfl
          clear hE2
          go_wp2_with fail
          go_ret
          exact ⟨rfl, ST8.out.bel⟩
        · have HE2 := Lib.hid hE2
          obtain ⟨i0, hi0, hz⟩ := Option.map_eq_some_iff.1 info_blk3
          simp only [Prod.mk.injEq] at hz
          obtain ⟨hz0, hz1, hz2⟩ := hz
          have hcs : t.c + 1 ≤ 255 := by
            obtain ⟨h1, h2⟩ := packE_zero HE.out
            have := size_c h1
            omega
          have hcu : u.c + 1 ≤ 255 := by
            obtain ⟨h1, h2⟩ := packE_zero hE2
            have := size_c h1
            omega
          have hbel8 := ST8.out.bel.size
          have hs70 := ST8.out.t.lt
          have hown : w8.ownsRow w.heap.size 40 256 (.slice (some ⟨q, 0, none⟩) (t.c + 1) (t.c + 1)) (t.c + 1) (Cs (bkF (pkB t)) (t.c + 1)) := own_raise HQ8.out (by omega)
          have hnews := row_news15 (m := 256) (by omega) (bkF_len (pkB u)) (show RRow w8 (some ⟨q2, 0, none⟩) 256 (u.c + 1) (bkF (pkB u)) from .inr ⟨q2, 0, rfl, hq82.seg⟩)
          have hcl : (Cs (bkF (pkB u)) (u.c + 1)).length = (u.c + 1) * 256 := Cs_length (bkF_len _) _
          have hone : ∀ v ∈ Cs (bkF (pkB u)) (u.c + 1), v.oneCell' = true := Cs_one (bkF_one _) _
          clear hE2 HQ8 hq82
          go_wp2_with (first | (refine wpList_append_own _ rfl (.tmp 72) (.tmp 73) 31 rfl w.heap.size 40 i0 (bval fun _ => 0) 256 256 Tryd.underlying31 hi0 hz0 hz1 hz2 (by simp [Value.cells, Ks]) (by decide) (.slice (some ⟨q, 0, none⟩) (t.c + 1) (t.c + 1)) (t.c + 1) _ rfl hown ⟨q2, 0, none⟩ (u.c + 1) (u.c + 1) (Cs (bkF (pkB u)) (u.c + 1)) rfl hcl hnews hone (by unfold maxLen; omega) (by omega) (by omega) ?_))
          intro v' w9 ho9 hg9 _
          have ST9 := Lib.hid (ST8.out.grown hTl hown hg9)
          have hl9 : RMine w9 w.heap.size 40 256 v' (t.c + 1 + (u.c + 1)) (bkF (twL t u)) := by
            refine RMine.append (news := Cs (bkF (pkB u)) (u.c + 1)) ?_ (Cs_congr fun i hi => ?_)
            · rw [Cs_congr (f := bkF (twL t u)) (g := bkF (pkB t)) (n := t.c + 1) (fun i hi => by unfold bkF twL; rw [if_pos (by omega)])]; exact ho9
            · unfold bkF twL; rw [if_neg (by omega), show t.c + 1 + i - (t.c + 1) = i by omega]
          obtain ⟨g, lc, rfl, hgb, hgl, hgn, hgm⟩ := RMine.form' hl9 (by omega)
          have hmx : maxLen = 9223372036854775807 := rfl
          clear ho9 hg9 hown hnews hcl hone ST8
          have HU1 : Hid (unp (twL t u) (t.c + 1 + (u.c + 1)) s = some (t, t.c + 1)) := by
            show _ = _
            have := unp_pack (L := twL t u) (N := t.c + 1 + (u.c + 1)) HOk.out HZ.out HE.out (by omega) (fun i hi => twL_lo i hi)
            rwa [HTS.out] at this
          have HU2 : Hid (unp (pkB u) (u.c + 1) (s + 1) = some (u, u.c + 1)) := by
            show _ = _
            have := unp_pack (L := pkB u) (N := u.c + 1) HOk2.out HZ2.out HE2.out (Nat.le_refl _) (fun i hi => rfl)
            rwa [HTS2.out] at this
          have HU3 : Hid (unp (pkB u) (u.c + 1) s = none) := unp_other (L := pkB u) HOk2.out HE2.out rfl (by rw [HTS2.out]; omega)
          have HBT := Lib.hid (twL_byt HOk.out HOk2.out)
          have HBU := Lib.hid (pkB_byt u HOk2.out)
          have HL9 := Lib.hid hl9
          have HLK : Hid (∀ W, RMine W w.heap.size 40 256 (.slice (some ⟨g, 0, none⟩) (t.c + 1 + (u.c + 1)) lc) (t.c + 1 + (u.c + 1)) (bkF (twL t u)) → RRow W (some ⟨g, (t.c + 1) * 256, none⟩) 256 (u.c + 1) (bkF (pkB u))) := fun W h => by
            refine .inr ⟨g, _, rfl, ?_⟩
            have := (RMine.seg h (bkF_len _)).sub (t.c + 1) (u.c + 1) (Nat.le_refl _)
            rw [Nat.zero_add] at this
            intro i hi j v hj
            refine this i hi j v ?_
            show (bkF (twL t u) (t.c + 1 + i))[j]? = _
            unfold bkF; rw [twL_hi]; exact hj
          clear hl9
          obtain ⟨N1, hN1⟩ : ∃ N1, N1 = t.c + 1 := ⟨_, rfl⟩
          obtain ⟨N2, hN2⟩ : ∃ N2, N2 = u.c + 1 := ⟨_, rfl⟩
          rw [← hN1, ← hN2] at HU1 HL9 HLK hgn
          rw [← hN1] at hcs
          rw [← hN2] at HU2 HU3 hcu
          rw [← hN1, ← hN2, show ((t.c : Int) + 1) = (N1 : Int) from by omega]
          have hN10 : 0 < N1 := by omega
          have hN20 : 0 < N2 := by omega
          clear hN1 hN2
          have hdr := fun W => run_dropB g 0 (N1 + N2) lc N1 (N1 : Int) rfl (by omega) (by omega) W
          rw [Nat.zero_add, Nat.add_sub_cancel_left] at hdr
          have HDR := Lib.hid hdr
          clear hdr
          go_wp2_with fail
          refine (unpack_any (some ⟨g, 0, none⟩) (N1 + N2) lc (twL t u) HBT.out s hs hgn (by omega) w9 ST9.out.ta (RMine.row HL9.out (bkF_len _)) (fun b off e => (World.ownsRow.lt HL9.out b (by rw [e]; rfl)).2)).mono ?_
          rintro e w10 ⟨hp, hb10⟩
          rcases hp with ⟨hn0, _⟩ | ⟨t', k', ca2, cc2, ra2, rc2, h, rfl, hC, hR⟩
          · rw [HU1.out] at hn0; cases hn0
          rw [HU1.out] at h
          injection h with h
          injection h with e1 e2
          subst e1 e2
          have ST10 := Lib.hid (ST9.out.below hb10)
          have HL10 := Lib.hid (RMine.below HL9.out hb10)
          have HC10 := Lib.hid hC
          have HR10 := Lib.hid hR
          have hP10 := At.new w10 28 (tcells 0 none 0 0 none 0 0)
          have hs10 := hb10.size
          have hL10 : Below w10.heap.size w10 (w10.alloc (.cells (tcells 0 none 0 0 none 0 0) 28)) := (Below.refl _ _).alloc (Nat.le_refl _) _
          clear hC hR hb10 ST9 HL9
          go_wp2_with (first | (refine wp_storeAt rfl 28 (.tmp 18) (.tmp 79) rfl w10.heap.size (tcells s ca2 t.n cc2 ra2 t.m rc2) _ rfl rfl hP10 (info_trans 0 none 0 0 none 0 0) rfl (by kernel_rfl) ?_))
          intro w11 hP11 ho11
          have hL11 := hL10.trans (ho11.below (Nat.le_refl _))
          have ST11 := Lib.hid (ST10.out.below hL11)
          have HL11 := Lib.hid (RMine.below HL10.out hL11)
          have HC11 := Lib.hid (RMine.below HC10.out hL11)
          have HR11 := Lib.hid (RMine.below HR10.out hL11)
          have hs11 := hL11.size
          have hT11 := ST11.out.t
          have HPP := Lib.hid hP11
          clear ho11 hL11 hL10 HC10 HR10 ST10 HL10 hP10
          go_wp2_with (first | (refine wp_loadAtG rfl 28 (.tmp 18) rfl _ _ _ rfl hP11 Tryd.underlying28 rfl (info_trans _ _ _ _ _ _ _) ?_) | (refine wp_loadAtG rfl 28 (.tmp 11) rfl _ _ _ rfl hT11 Tryd.underlying28 rfl (info_trans _ _ _ _ _ _ _) ?_))
          refine (same15_any s t.n t.m t.cb t.cd t.rv ca2 cc2 ra2 rc2 ca cc ra rc (by omega) (by omega) w11 (RMine.row HC11.out (cpF_len _ _)) (RMine.row ST11.out.c (cpF_len _ _)) (RMine.row HR11.out (inF_len _)) (RMine.row ST11.out.v (inF_len _))).mono ?_
          rintro e w12 ⟨rfl, hb12⟩
          have ST12 := Lib.hid (ST11.out.below hb12)
          have HL12 := Lib.hid (RMine.below HL11.out hb12)
          have hdr := HDR.out
          clear hT11 hP11 HPP hb12 HC11 HR11 ST11 HL11
          go_wp2_with fail
          have hrow := HLK.out w12 HL12.out
          have hg12 := (World.ownsRow.lt HL12.out g rfl).2
          refine (unpack_any (some ⟨g, N1 * 256, none⟩) N2 (lc - N1) (pkB u) HBU.out (s + 1) (by omega) (by omega) (by omega) w12 ST12.out.ta hrow (fun b off e => by injection e with e; injection e with e; omega)).mono ?_
          rintro e w13 ⟨hp, hb13⟩
          rcases hp with ⟨hn0, _⟩ | ⟨t', k', ca3, cc3, ra3, rc3, h, rfl, hC, hR⟩
          · rw [HU2.out] at hn0; cases hn0
          rw [HU2.out] at h
          injection h with h
          injection h with e1 e2
          subst e1 e2
          have ST13 := Lib.hid (ST12.out.below hb13)
          have HL13 := Lib.hid (RMine.below HL12.out hb13)
          have HC13 := Lib.hid hC
          have HR13 := Lib.hid hR
          have hP13 := At.new w13 28 (tcells 0 none 0 0 none 0 0)
          have hs13 := hb13.size
          have hL13 : Below w13.heap.size w13 (w13.alloc (.cells (tcells 0 none 0 0 none 0 0) 28)) := (Below.refl _ _).alloc (Nat.le_refl _) _
          clear hC hR hb13 ST12 HL12 hrow hg12
          go_wp2_with (first | (refine wp_storeAt rfl 28 (.tmp 21) (.tmp 102) rfl w13.heap.size (tcells (s + 1) ca3 u.n cc3 ra3 u.m rc3) _ rfl rfl hP13 (info_trans 0 none 0 0 none 0 0) rfl (by kernel_rfl) ?_))
          intro w14 hP14 ho14
          have hL14 := hL13.trans (ho14.below (Nat.le_refl _))
          have ST14 := Lib.hid (ST13.out.below hL14)
          have HL14 := Lib.hid (RMine.below HL13.out hL14)
          have HC14 := Lib.hid (RMine.below HC13.out hL14)
          have HR14 := Lib.hid (RMine.below HR13.out hL14)
          have hs14 := hL14.size
          have hlt14 := hP14.lt
          clear ho14 hL14 hL13 HC13 HR13 ST13 HL13 hP13
          go_wp2_with fail
          have hrow := HLK.out w14 HL14.out
          have hg14 := (World.ownsRow.lt HL14.out g rfl).2
          refine (unpack_any (some ⟨g, N1 * 256, none⟩) N2 (lc - N1) (pkB u) HBU.out s hs (by omega) (by omega) w14 ST14.out.ta hrow (fun b off e => by injection e with e; injection e with e; omega)).mono ?_
          rintro e w15 ⟨hp, hb15⟩
          rcases hp with ⟨_, rfl⟩ | ⟨t', k', ca4, cc4, ra4, rc4, h, _⟩
          rotate_left
          · rw [HU3.out] at h; cases h
          have ST15 := Lib.hid (ST14.out.below hb15)
          have HC15 := Lib.hid (RMine.below HC14.out hb15)
          have HR15 := Lib.hid (RMine.below HR14.out hb15)
          have hP15 := hP14.below hb15 hlt14
          have hs15 := hb15.size
          have hQ15 := At.new w15 28 (tcells 0 none 0 0 none 0 0)
          have hL15 : Below w15.heap.size w15 (w15.alloc (.cells (tcells 0 none 0 0 none 0 0) 28)) := (Below.refl _ _).alloc (Nat.le_refl _) _
          have hlt15 := hP15.lt
          clear hb15 ST14 HL14 HC14 HR14 hrow hg14 hP14
          go_wp2_with (first | (refine wp_storeAt rfl 28 (.tmp 24) (.tmp 111) rfl w15.heap.size (tcells 0 none 0 0 none 0 0) _ rfl rfl hQ15 (info_trans 0 none 0 0 none 0 0) rfl (by kernel_rfl) ?_))
          intro w16 hQ16 ho16
          have hL16 := hL15.trans (ho16.below (Nat.le_refl _))
          have ST16 := Lib.hid (ST15.out.below hL16)
          have HC16 := Lib.hid (RMine.below HC15.out hL16)
          have HR16 := Lib.hid (RMine.below HR15.out hL16)
          have hP16 := hP15.below hL16 hlt15
          have hU16 := ST16.out.u
          have q5 : ((N2 : Int) == (N2 : Int)) = true := beq_self_eq_true _
          clear ho16 hL16 hL15 HC15 HR15 ST15 hP15 hQ15 hQ16
          go_wp2_with (first | (refine wp_loadAtG rfl 28 (.tmp 21) rfl _ _ _ rfl hP16 Tryd.underlying28 rfl (info_trans _ _ _ _ _ _ _) ?_) | (refine wp_loadAtG rfl 28 (.tmp 12) rfl _ _ _ rfl hU16 Tryd.underlying28 rfl (info_trans _ _ _ _ _ _ _) ?_))
          refine (same15_any (s + 1) u.n u.m u.cb u.cd u.rv ca3 cc3 ra3 rc3 ca' cc' ra' rc' (by omega) (by omega) w16 (RMine.row HC16.out (cpF_len _ _)) (RMine.row ST16.out.c' (cpF_len _ _)) (RMine.row HR16.out (inF_len _)) (RMine.row ST16.out.v' (inF_len _))).mono ?_
          rintro e wf ⟨rfl, hbf⟩
          have HBF := Lib.hid (ST16.out.bel.trans (hbf.mono ST16.out.bel.size))
          clear hbf hP16 hU16
          go_wp2_with fail
          go_ret
          exact ⟨rfl, HBF.out⟩
end Go.Proofs.YthkalmdpbhjafaaDoor
