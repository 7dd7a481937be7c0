/- Texts of this claim, merged by a program (a claim may have 60 files): CkQ, WMkW. -/
import Derived.Test.YtnbmmhoofilmfaaGreatDoorK42
import Derived.Test.YtnbmmhoofilmfaaGreatDoorK25
import Derived.Test.YtnbmmhoofilmfaaGreatDoorK43
import Derived.Test.YtnbmmhoofilmfaaGreatDoorK33
import Derived.Test.YtnbmmhoofilmfaaGreatDoorK17
/- check: what it tells of an image: the rule, the superblock, whether it is quiet, the owners. -/
namespace Go.Proofs.YtnbmmhoofilmfaaGreatDoor
open Go.RowKit
set_option linter.unusedVariables false

set_option maxRecDepth 100000 in
theorem ckRule_any (v : Value) (n : Nat) (L : Nat → Nat → Int) (hL : ∀ i, Byt (L i)) (hn9 : n ≤ 4294967296) (w : World) (hT : Tab w) (hv : ImV w v n L) :
    Calls Tryz.prog 25 #[v] w fun e w' => e = .returned (.int .i64 (((Im.of L n).exam.1 : Nat) : Int)) ∧ Below w.heap.size w w' := by
  have HE := Lib.hid (ckExamine_all v n L hL hn9 w hT hv)
  clear hT hv hL
  go_enter Tryz.func25, Tryz.ntmps25
  go_wp2_with fail
  refine HE.out.mono ?_
  rintro e w1 ⟨p, rfl, hb, _⟩
  have HB := Lib.hid hb
  clear hb HE
  go_wp2_with fail
  go_ret
  exact ⟨rfl, HB.out⟩
set_option maxRecDepth 100000 in
theorem ckImage_any (v : Value) (n : Nat) (L : Nat → Nat → Int) (hL : ∀ i, Byt (L i)) (hn9 : n ≤ 4294967296) (w : World) (hT : Tab w) (hv : ImV w v n L) :
    Calls Tryz.prog 18 #[v] w fun e w' => (((Im.of L n).exam.1 ≠ 0 ∧ e = .returned (.tuple #[sval 0 0 0 0 0, .int .i64 200])) ∨ ((Im.of L n).exam.1 = 0 ∧ (Im.of L n).Ok ∧ e = .returned (.tuple #[sval (Im.of L n).g (Im.of L n).s (Im.of L n).i (Im.of L n).j (Im.of L n).o, .int .i64 0]))) ∧ Below w.heap.size w w' := by
  have hzs := zero_super
  have hA0 := At.new w 47 (scells 0 0 0 0 0)
  have hb0 : Below w.heap.size w (w.alloc (.cells (scells 0 0 0 0 0) 47)) := (Below.refl _ _).alloc (Nat.le_refl _) _
  have HE := Lib.hid (ckExamine_all v n L hL hn9 _ (hT.below hb0 (Nat.le_refl _)) (hv.below hb0))
  have HA0 := Lib.hid hA0
  have HB0 := Lib.hid hb0
  clear hT hv hL hA0 hb0
  go_enter Tryz.func18, Tryz.ntmps18
  go_wp2_with fail
  refine HE.out.mono ?_
  rintro e w1 ⟨p, rfl, hb, hx⟩
  have hr := HA0.out.below hb HA0.out.lt
  have HB := Lib.hid (HB0.out.trans (hb.mono HB0.out.size))
  have HX := Lib.hid hx
  clear hb HE hx HA0 HB0
  obtain ⟨K, hK⟩ : ∃ K, K = (((Im.of L n).exam.1 : Nat) : Int) := ⟨_, rfl⟩
  rw [← hK]
  have HK := Lib.hid hK
  clear hK
  by_cases h0 : K = 0
  · have q0 : (K != 0) = false := by simp [h0]
    have e0 : (Im.of L n).exam.1 = 0 := by have := HK.out; omega
    obtain ⟨hok, ds, ino, orp, sl, un, g, hA, hR, hg, hpg⟩ := HX.out e0
    have HO := Lib.hid hok
    have E0 := Lib.hid e0
    have hrg : w1.rangeAt p 1 (scells (Im.of L n).g (Im.of L n).s (Im.of L n).i (Im.of L n).j (Im.of L n).o).toList := fun k v' hk => by
      match k, hk with
      | 0, hk => injection hk with hk; subst hk; exact hA.cell (i := 1) rfl
      | 1, hk => injection hk with hk; subst hk; exact hA.cell (i := 2) rfl
      | 2, hk => injection hk with hk; subst hk; exact hA.cell (i := 3) rfl
      | 3, hk => injection hk with hk; subst hk; exact hA.cell (i := 4) rfl
      | 4, hk => injection hk with hk; subst hk; exact hA.cell (i := 5) rfl
      | k + 5, hk => cases hk
    clear h0 HX hA hR hg hpg hok e0
    go_wp2_with (first | (refine wp_loadMid rfl 47 _ rfl p 1 (scells (Im.of L n).g (Im.of L n).s (Im.of L n).i (Im.of L n).j (Im.of L n).o).toList _ rfl hrg Tryz.underlying47 rfl (by kernel_rfl) ?_) | (refine wp_storeAt rfl 47 (.tmp 2) (.tmp 17) rfl w.heap.size (scells (Im.of L n).g (Im.of L n).s (Im.of L n).i (Im.of L n).j (Im.of L n).o) (scells 0 0 0 0 0) rfl rfl hr info_super rfl (all_s _ _ _ _ _) ?_))
    intro w9 hR9 ho9
    clear hrg hr
    go_wp2_with fail
    exact bodyPost_ret (results_sup2 rfl _ _ w.heap.size _ _ _ _ _ rfl hR9) rfl ⟨.inr ⟨E0.out, HO.out, rfl⟩, HB.out.trans (ho9.below (Nat.le_refl _))⟩
  · have q0 : (K != 0) = true := by simp [h0]
    have E0 : Hid ((Im.of L n).exam.1 ≠ 0) := by show _ ≠ _; have := HK.out; omega
    clear h0 HX
    go_wp2_with (first | (refine wp_storeAt rfl 47 (.tmp 2) (.tmp 13) rfl w.heap.size (scells 0 0 0 0 0) (scells 0 0 0 0 0) rfl rfl hr info_super rfl (all_s _ _ _ _ _) ?_))
    intro w9 hR9 ho9
    clear hr
    go_wp2_with fail
    exact bodyPost_ret (results_sup2 rfl _ _ w.heap.size _ _ _ _ _ rfl hR9) rfl ⟨.inl ⟨E0.out, rfl⟩, HB.out.trans (ho9.below (Nat.le_refl _))⟩
set_option maxRecDepth 100000 in
theorem ckQuiet_any (v : Value) (n : Nat) (L : Nat → Nat → Int) (hL : ∀ i, Byt (L i)) (hn9 : n ≤ 4294967296) (w : World) (hT : Tab w) (hv : ImV w v n L) :
    Calls Tryz.prog 29 #[v] w fun e w' => e = .returned (.bool (decide ((Im.of L n).exam.1 = 0 ∧ (Im.of L n).o = 0))) ∧ Below w.heap.size w w' := by
  have HE := Lib.hid (ckExamine_all v n L hL hn9 w hT hv)
  clear hT hv hL
  go_enter Tryz.func29, Tryz.ntmps29
  go_wp2_with fail
  refine HE.out.mono ?_
  rintro e w1 ⟨p, rfl, hb, hx⟩
  have HB := Lib.hid hb
  have HX := Lib.hid hx
  clear hb HE hx
  obtain ⟨K, hK⟩ : ∃ K, K = (((Im.of L n).exam.1 : Nat) : Int) := ⟨_, rfl⟩
  rw [← hK]
  have HK := Lib.hid hK
  clear hK
  by_cases h0 : K = 0
  · have q0 : (K == 0) = true := by simp [h0]
    have e0 : (Im.of L n).exam.1 = 0 := by have := HK.out; omega
    obtain ⟨hok, ds, ino, orp, sl, un, g, hA, hR, hg, hpg⟩ := HX.out e0
    have E0 := Lib.hid e0
    obtain ⟨O, hO⟩ : ∃ O, O = (((Im.of L n).o : Nat) : Int) := ⟨_, rfl⟩
    have c5 : w1.cell? ⟨p, 5, none⟩ = some (.int .u32 O) := by rw [hO]; exact hA.cell (i := 5) rfl
    have HO := Lib.hid hO
    clear h0 HX hA hR hg hpg hok e0 hO
    go_wp2_with fail
    go_ret
    refine ⟨?_, HB.out⟩
    have : (O == 0) = decide ((Im.of L n).exam.1 = 0 ∧ (Im.of L n).o = 0) := by
      rw [HO.out, E0.out]
      by_cases h : (Im.of L n).o = 0
      · simp [h]
      · simp [h]
    rw [this]; rfl
  · have q0 : (K == 0) = false := by simp [h0]
    have E0 : Hid ((Im.of L n).exam.1 ≠ 0) := by show _ ≠ _; have := HK.out; omega
    clear h0 HX
    go_wp2_with fail
    go_ret
    exact ⟨by rw [decide_eq_false (fun h => E0.out h.1)]; rfl, HB.out⟩
end Go.Proofs.YtnbmmhoofilmfaaGreatDoor

/- MkfsWhole. -/
namespace Go.Proofs.YtnbmmhoofilmfaaGreatDoor
open Go.RowKit
set_option linter.unusedVariables false

/-- the empty image with a bit of a bitmap turned about -/
theorem mk_flip {g s i j k d bit : Nat} (hm : mayG g s i j = true) (hk : k < g) (hd : d < 2) (hb : bit < 2048) {z : Nat → Int} (hz : ∀ q, bt z q = if q = bit then !bt (mkB g s i j (2 + j + k * s + d)) q else bt (mkB g s i j (2 + j + k * s + d)) q) :
    3 ≤ (Im.of (updN (mkB g s i j) (2 + j + k * s + d) z) (2 + j + g * s)).exam.1 := by
  obtain ⟨h1, h2, h3, h4, h5, h6, h7, h8, h9, h10, h11⟩ := mayN hm
  obtain ⟨m, u, hg⟩ := mk_good hm
  have h0 : updN (mkB g s i j) (2 + j + k * s + d) z 0 = mkB g s i j 0 := by unfold updN; rw [if_neg (by omega)]
  have e : Im.of (updN (mkB g s i j) (2 + j + k * s + d) z) (2 + j + g * s) = { mkIm g s i j with L := updN (mkB g s i j) (2 + j + k * s + d) z } := by
    have := mk_of hm
    unfold Im.of at this ⊢
    rw [h0]
    injection this with _ _ e1 e2 e3 e4 e5
    rw [e1, e2, e3, e4, e5]
  rw [e]
  refine Im.flip_bad hg (by show 2 + i / 4 ≤ s; omega) h4 h5 h6 h7 h8 hk hd hb (fun b hb => ?_) (fun q _ => ?_)
  · unfold updN; exact if_neg hb
  · show bt (updN (mkB g s i j) (2 + j + k * s + d) z (2 + j + k * s + d)) q = _
    unfold updN
    rw [if_pos rfl]; exact hz q
theorem find_none {g s i j : Nat} (hm : mayG g s i j = true) : fdE g s i j (2 + j + g * s) (mkB g s i j) = 0 ∧ fdL j (mkB g s i j) = [] ∧ hdS (mkB g s i j 2) = 1 ∧ hdT (mkB g s i j 2) = 0 := by
  obtain ⟨h1, h2, h3, h4, h5, h6, h7, h8, h9, h10, h11⟩ := mayN hm
  obtain ⟨r1, r2, r3⟩ := head_rd (s := 1) (t := 0) (by decide)
  have e2 : mkB g s i j 2 = headZ 1 0 := mkB_2 h8
  have eL : fdL j (mkB g s i j) = [] := by unfold fdL; rw [e2, r3, if_neg (by decide)]
  refine ⟨?_, eL, by rw [e2, r2], by rw [e2, r3]⟩
  unfold fdE
  rw [eL, e2, r1, r2, r3, hm, if_neg (by decide), if_neg (by unfold nBl; rw [hm, if_pos rfl]; have : ((g * s : Nat) : Int) = (g : Int) * (s : Int) := Int.natCast_mul _ _; omega), if_neg (by rintro (h | h); exact absurd h (by decide); omega), if_neg (by simp), if_neg (by decide)]
theorem run_eql_headM (s t s' t' : Int) (w : World) : (binOp .eql 83 (.agg #[.int .u32 s, .int .i64 t]) (.agg #[.int .u32 s', .int .i64 t'])).run Tryz.prog w = .ok (.bool (s == s' && t == t')) w := by
  have hS : Tryz.prog.underlying 83 = some (.struct (Tryz.prog.fieldsOf 83)) := by kernel_rfl
  have hp : Tryz.prog.stoodInHeld 83 = false := by kernel_rfl
  rw [run_eql_struct, show (10000 : Nat) = 9999 + 1 from rfl, run_equalIn_agg w 9999 _ _ _ hS hp]
  simp only [Program.fieldsOf, Tryz.underlying83]
  clear hS hp
  go_simp
  by_cases h1 : s = s' <;> by_cases h2 : t = t' <;> simp [h1, h2]
theorem run_neq_headM (s t : Int) (w : World) : (binOp .neq 83 (.agg #[.int .u32 s, .int .i64 t]) (.agg #[.int .u32 s, .int .i64 t])).run Tryz.prog w = .ok (.bool false) w := by
  have := neq_of_eql (run_eql_headM s t s t w)
  simpa using this
theorem run_eql_geoM (a b c d : Int) (w : World) : (binOp .eql 23 (gval a b c d) (gval a b c d)).run Tryz.prog w = .ok (.bool true) w := by
  have hS : Tryz.prog.underlying 23 = some (.struct (Tryz.prog.fieldsOf 23)) := by kernel_rfl
  have hp : Tryz.prog.stoodInHeld 23 = false := by kernel_rfl
  rw [run_eql_struct, show (10000 : Nat) = 9999 + 1 from rfl, run_equalIn_agg w 9999 _ _ _ hS hp]
  simp only [Program.fieldsOf, Tryz.underlying23]
  clear hS hp
  go_simp
theorem run_neq_geoM (a b c d : Int) (w : World) : (binOp .neq 23 (gval a b c d) (gval a b c d)).run Tryz.prog w = .ok (.bool false) w := by
  have := neq_of_eql (run_eql_geoM a b c d w)
  simpa using this
/-- what stands of the image -/
structure MwS (w : World) (g s i j q n : Nat) (L : Nat → Nat → Int) (W : World) : Prop where
  ge : At W w.heap.size 23 (gcells g s i j)
  im : RArr W q 32 256 n (bkF L)
  ta : Tab W
  bel : Below w.heap.size w W
  lo : w.heap.size < q
  tl : 0 < w.heap.size
theorem MwS.below {w W W' : World} {g s i j q n : Nat} {L : Nat → Nat → Int} (h : MwS w g s i j q n L W) (hb : Below W.heap.size W W') : MwS w g s i j q n L W' :=
  ⟨h.ge.below hb h.ge.lt, h.im.below hb, h.ta.below hb (Nat.le_refl _), h.bel.trans (hb.mono h.bel.size), h.lo, h.tl⟩
theorem MwS.only {w W W' : World} {g s i j q n : Nat} {L L' : Nat → Nat → Int} (h : MwS w g s i j q n L W) (ho : Only q W W') (hr : RArr W' q 32 256 n (bkF L')) : MwS w g s i j q n L' W' := by
  have h1 := h.lo
  have h2 := h.tl
  exact ⟨h.ge.only ho (by omega), hr, h.ta.only ho (by omega), h.bel.trans (ho.below (by omega)), h.lo, h.tl⟩
theorem MwS.imV {w W : World} {g s i j q n : Nat} {L : Nat → Nat → Int} (h : MwS w g s i j q n L W) : ImV W (.slice (some ⟨q, 0, none⟩) n n) n L := ⟨_, _, rfl, fun _ => ⟨q, 0, rfl, h.im.lt, h.im.seg⟩⟩
set_option maxRecDepth 100000 in
set_option maxHeartbeats 8000000 in
theorem mkfsWhole_walk (G S I J γ β : Int) (B : Bool) (w : World) (hT : Tab w) :
    Calls Tryz.prog 10 #[gval G S I J, .int .i64 γ, .int .i64 β, .bool B] w fun e w' => e = .returned (.bool true) ∧ Below w.heap.size w w' := by
  have hs0 := At.new w 23 (gcells G S I J)
  have HL0 : Hid (Below w.heap.size w (w.alloc (.cells (gcells G S I J) 23))) := (Below.refl _ _).alloc (Nat.le_refl _) _
  have HT0 := Lib.hid (hT.alloc (.cells (gcells G S I J) 23))
  have hTl := hT.lt
  clear hT
  go_enter Tryz.func10, Tryz.ntmps10
  go_wp2_with fail
  refine (awake21 _ HT0.out).mono ?_
  rintro e w1 ⟨rfl, hb1⟩
  have hs1 := hs0.below hb1 hs0.lt
  have HL1 := Lib.hid (HL0.out.trans (hb1.mono HL0.out.size))
  have HT1 := Lib.hid (HT0.out.below hb1 (Nat.le_refl _))
  clear hs0 HL0 HT0 hb1
  go_wp2_with (first | (refine wp_loadAtG rfl 23 (.tmp 4) rfl _ _ _ rfl hs1 Tryz.underlying23 rfl (by kernel_rfl) ?_))
  cases hm : mayG G S I J with
  | false =>
    refine (make_no G S I J hm _).mono ?_
    rintro e w2 ⟨rfl, hb2⟩
    have hs2 := hs1.below hb2 hs1.lt
    have HL2 := Lib.hid (HL1.out.trans (hb2.mono HL1.out.size))
    have HM := Lib.hid hm
    clear hm hs1 HL1 HT1 hb2
    go_wp2_with (first | (refine wp_loadAtG rfl 23 (.tmp 4) rfl _ _ _ rfl hs2 Tryz.underlying23 rfl (by kernel_rfl) ?_))
    refine (geoMay_any G S I J _).mono ?_
    rintro e w3 ⟨rfl, hb3⟩
    rw [HM.out]
    have HL3 := Lib.hid (HL2.out.trans (hb3.mono HL2.out.size))
    clear hs2 HL2 hb3
    go_wp2_with fail
    go_ret
    exact ⟨rfl, HL3.out⟩
  | true =>
  obtain ⟨a1, a2, a3, a4, a5, a6, a7, a8, a9, a10, a11⟩ := (mayG_iff G S I J).1 hm
  obtain ⟨g, rfl⟩ : ∃ g : Nat, G = (g : Int) := ⟨G.toNat, by omega⟩
  obtain ⟨s, rfl⟩ : ∃ s : Nat, S = (s : Int) := ⟨S.toNat, by omega⟩
  obtain ⟨i, rfl⟩ : ∃ i : Nat, I = (i : Int) := ⟨I.toNat, by omega⟩
  obtain ⟨j, rfl⟩ : ∃ j : Nat, J = (j : Int) := ⟨J.toNat, by omega⟩
  clear a1 a2 a3 a4 a5 a6 a7 a8 a9 a10 a11
  have HM := Lib.hid hm
  refine (make_yes g s i j hm _ HT1.out).mono ?_
  rintro e w2 ⟨q, rfl, hi2⟩
  obtain ⟨n, hn⟩ : ∃ n, n = 2 + j + g * s := ⟨_, rfl⟩
  have hn48 : n ≤ 2048 := by have := mayN hm; omega
  have HN := Lib.hid hn
  have hs2 := hs1.below hi2.bel hs1.lt
  have LOQ : w.heap.size < q := by have := hi2.le; have := hs1.lt; omega
  have ST2 : Hid (MwS w g s i j q n (mkB g s i j) w2) := ⟨hs2, by rw [hn]; exact hi2.a, HT1.out.below hi2.bel (Nat.le_refl _), HL1.out.trans (hi2.bel.mono HL1.out.size), LOQ, hTl⟩
  have HEX : Hid ((Im.of (mkB g s i j) n).exam.1 = 0 ∧ (Im.of (mkB g s i j) n) = mkIm g s i j) := by
    show _ ∧ _
    rw [hn, mk_exam hm, mk_of hm]; exact ⟨rfl, rfl⟩
  have HFI : Hid (fdE g s i j n (mkB g s i j) = 0 ∧ fdL j (mkB g s i j) = [] ∧ hdS (mkB g s i j 2) = 1 ∧ hdT (mkB g s i j 2) = 0) := by rw [hn]; exact find_none hm
  rw [← hn]
  clear hn hm hs1 HL1 HT1 hi2
  go_wp2_with (first | (refine wp_loadAtG rfl 23 (.tmp 4) rfl _ _ _ rfl hs2 Tryz.underlying23 rfl (by kernel_rfl) ?_))
  refine (geoMay_any g s i j _).mono ?_
  rintro e w3 ⟨rfl, hb3⟩
  rw [HM.out]
  have ST3 := Lib.hid (ST2.out.below hb3)
  clear hs2 hb3 ST2
  go_wp2_with fail
  refine (ckImage_any _ n (mkB g s i j) (fun b => mkB_byt _ _ _ _ b) (by omega) _ ST3.out.ta ST3.out.imV).mono ?_
  rintro e w4 ⟨hp, hb4⟩
  rcases hp with ⟨hne, _⟩ | ⟨_, _, rfl⟩
  · exact absurd HEX.out.1 hne
  rw [HEX.out.2]
  have st4 := ST3.out.below hb4
  have hA5 := At.new w4 47 (scells g s i j 0)
  have st5 := st4.below (Below.refl w4.heap.size w4 |>.alloc (Nat.le_refl _) (.cells (scells g s i j 0) 47))
  have hge5 := st5.ge
  have ST5 := Lib.hid st5
  have HA5 := Lib.hid hA5
  clear ST3 hb4 st4 st5 hA5
  go_wp2_with (first | (refine wp_loadAtG rfl 23 (.tmp 4) rfl _ _ _ rfl hge5 Tryz.underlying23 rfl (by kernel_rfl) ?_))
  refine (find18_zero g s i j (some ⟨q, 0, none⟩) n n (mkB g s i j) (fun b => mkB_byt _ _ _ _ b) (Nat.le_refl _) (by omega) _ ST5.out.ta (.inr ⟨q, 0, rfl, ST5.out.im.seg⟩) (by rw [HFI.out.2.2.2]; decide)).mono ?_
  rintro e w6 ⟨hp, hb6⟩
  obtain ⟨f1, f2, f3, f4⟩ := HFI.out
  unfold FdPost at hp
  rw [f1, f2, f3, f4] at hp
  rcases hp with ⟨hne, _⟩ | ⟨_, la, lc, rfl, _⟩
  · exact absurd rfl hne
  rw [show (1 + ((([] : List Tr).length : Nat) : Int) + 1) = 2 from rfl, show ([] : List Tr).length = 0 from rfl]
  clear f1 f2 f3 f4 HFI hge5
  have hb7 : Below w6.heap.size w6 (w6.alloc (.cells #[.int .u32 1, .int .i64 0] 83)) := (Below.refl _ _).alloc (Nat.le_refl _) _
  have st7 := (ST5.out.below hb6).below hb7
  have hsu7 := (HA5.out.below hb6 HA5.out.lt).below hb7 (Nat.lt_of_lt_of_le HA5.out.lt hb6.size)
  have hhd7 := At.new w6 83 #[.int .u32 1, .int .i64 0]
  have hge7 := st7.ge
  have hrg7 := At.geo hsu7
  have c47 : (w6.alloc (.cells #[.int .u32 1, .int .i64 0] 83)).cell? ⟨w4.heap.size, 4, none⟩ = some (.int .u32 0) := hsu7.cell (i := 4) rfl
  have ST7 := Lib.hid st7
  have HSU7 := Lib.hid hsu7
  have HHD7 := Lib.hid hhd7
  have hng := run_neq_geoM (g : Int) (s : Int) (i : Int) (j : Int)
  clear ST5 HA5 hb6 hb7 st7 hsu7 hhd7
  go_wp2_with (first | (refine wp_loadAtG rfl 23 (.tmp 4) rfl _ _ _ rfl hge7 Tryz.underlying23 rfl (by kernel_rfl) ?_) | (refine wp_loadMid rfl 23 (.tmp 56) rfl _ _ _ _ rfl hrg7 Tryz.underlying23 rfl (by kernel_rfl) ?_))
  refine (ckQuiet_any _ n (mkB g s i j) (fun b => mkB_byt _ _ _ _ b) (by omega) _ ST7.out.ta ST7.out.imV).mono ?_
  rintro e w8 ⟨rfl, hb8⟩
  rw [decide_eq_true (show (Im.of (mkB g s i j) n).exam.1 = 0 ∧ (Im.of (mkB g s i j) n).o = 0 from ⟨HEX.out.1, by rw [HEX.out.2]⟩)]
  have ST8 := Lib.hid (ST7.out.below hb8)
  have hhd8 := HHD7.out.below hb8 HHD7.out.lt
  have hge8 := ST8.out.ge
  have hnh := run_neq_headM 1 0
  clear ST7 HSU7 HHD7 hge7 hrg7 c47 hng hb8
  go_wp2_with (first | (refine wp_loadAtG rfl 23 (.tmp 4) rfl _ _ _ rfl hge8 Tryz.underlying23 rfl (by kernel_rfl) ?_) | (refine wp_loadAtG rfl 83 (.tmp 13) rfl _ _ _ rfl hhd8 Tryz.underlying83 rfl (by kernel_rfl) ?_))
  refine (geoStart_any g s i j γ _).mono ?_
  rintro e w9 ⟨rfl, hb9⟩
  have ST9 := Lib.hid (ST8.out.below hb9)
  clear ST8 hhd8 hge8 hnh hb9
  have fin : ∀ W, MwS w g s i j q n (mkB g s i j) W → Below w.heap.size w W := fun W h => h.bel
  cases hG : isGr g s i j γ with
  | false =>
    go_wp2_with fail
    go_ret
    exact ⟨rfl, ST9.out.bel⟩
  | true =>
  have hγ := hG
  unfold isGr at hγ
  rw [HM.out, Bool.true_and, Bool.and_eq_true, decide_eq_true_eq, decide_eq_true_eq] at hγ
  obtain ⟨k, rfl⟩ : ∃ k : Nat, γ = (k : Int) := ⟨γ.toNat, by omega⟩
  have hk : k < g := by omega
  have hst : stGr g s i j (k : Int) = ((2 + j + k * s : Nat) : Int) := by
    unfold stGr
    rw [hG, if_pos rfl]
    have : ((k * s : Nat) : Int) = (k : Int) * (s : Int) := Int.natCast_mul _ _
    omega
  rw [hst]
  by_cases hβ : β < 0
  · clear hG hγ hst
    go_wp2_with fail
    go_ret
    exact ⟨rfl, ST9.out.bel⟩
  have q0 : decide (β < 0) = false := decide_eq_false hβ
  obtain ⟨b, rfl⟩ : ∃ b : Nat, β = (b : Int) := ⟨β.toNat, by omega⟩
  by_cases hb : 2048 ≤ b
  · have q1 : decide ((2048 : Int) ≤ (b : Int)) = true := decide_eq_true (by omega)
    have q1' : decide (2048 ≤ b) = true := decide_eq_true hb
    clear hG hγ hst
    go_wp2_with fail
    go_ret
    exact ⟨rfl, ST9.out.bel⟩
  have q1 : decide ((2048 : Int) ≤ (b : Int)) = false := decide_eq_false (by omega)
  have q1' : decide (2048 ≤ b) = false := decide_eq_false hb
  have hb2 : b < 2048 := by omega
  obtain ⟨d, hd⟩ : ∃ d : Nat, d = if B then 1 else 0 := ⟨_, rfl⟩
  have hd2 : d < 2 := by rw [hd]; split <;> omega
  obtain ⟨a, ha⟩ : ∃ a, a = 2 + j + k * s + d := ⟨_, rfl⟩
  have han : a < n := by
    have h1 := mayN HM.out
    have h2 := HN.out
    have h3 : (k + 1) * s ≤ g * s := Nat.mul_le_mul_right _ hk
    rw [Nat.succ_mul] at h3
    omega
  have HFL : Hid (∀ z, (∀ q, bt z q = if q = b then !bt (mkB g s i j a) q else bt (mkB g s i j a) q) → 3 ≤ (Im.of (updN (mkB g s i j) a z) n).exam.1) := fun z hz => by
    subst ha
    rw [HN.out]
    exact mk_flip HM.out hk hd2 hb2 hz
  have q2 : decide ((0 : Int) ≤ (b : Int)) = true := decide_eq_true (by omega)
  have HBY : Hid (∀ a, Byt (mkB g s i j a)) := fun a => mkB_byt _ _ _ _ a
  have ha9 : a ≤ 4096 := by omega
  obtain ⟨A0, hA0⟩ : ∃ A0, A0 = 2 + j + k * s := ⟨_, rfl⟩
  rw [← hA0] at ha ⊢
  clear hA0 hst hγ hG hβ hb fin
  cases B with
  | false =>
    rw [if_neg (by decide)] at hd
    subst hd
    rw [Nat.add_zero] at ha
    subst ha
    go_wp2_with fail
    refine (bitSetA_any q n _ b han (by omega) hb2 (mkB g s i j) (HBY.out _) w9 ST9.out.im).mono ?_
    rintro e w10 (⟨hbt, rfl, m, hw⟩ | ⟨hbt, rfl, hr, ho⟩)
    · have ST10 : Hid (MwS w g s i j q n (mkB g s i j) w10) := by rw [hw]; exact ST9.out.below ⟨rfl, rfl, rfl, Nat.le_refl _, fun _ _ => rfl⟩
      clear ST9 hw
      go_wp2_with fail
      refine (bitClearA_any q n _ b han (by omega) hb2 (mkB g s i j) (HBY.out _) w10 ST10.out.im).mono ?_
      rintro e w11 (⟨hbt', _⟩ | ⟨_, rfl, hr, ho⟩)
      · rw [hbt] at hbt'; cases hbt'
      obtain ⟨L2, hL2⟩ : ∃ L2, L2 = updN (mkB g s i j) a (bZ (clrB (bt (mkB g s i j a)) b)) := ⟨_, rfl⟩
      rw [← hL2] at hr
      have HL2 := Lib.hid hL2
      have ST11 := Lib.hid (ST10.out.only ho hr)
      clear ST10 hL2
      have H3 : Hid (3 ≤ (Im.of L2 n).exam.1) := by rw [HL2.out]; exact HFL.out _ (fun q => by
        rw [bt_bZ]; unfold clrB
        by_cases e : q = b
        · rw [if_pos e, if_pos e, e, hbt]; rfl
        · rw [if_neg e, if_neg e])
      have HLB : Hid (∀ c, Byt (L2 c)) := fun c => by
        rw [HL2.out]
        unfold updN
        split
        · exact bZ_byt _
        · exact HBY.out c
      clear hr ho hbt HL2
      go_wp2_with fail
      refine (ckImage_any _ n L2 HLB.out (by omega) _ ST11.out.ta ST11.out.imV).mono ?_
      rintro e w12 ⟨hp, hb12⟩
      rcases hp with ⟨_, rfl⟩ | ⟨h0, _⟩
      rotate_left
      · exact absurd h0 (by have := H3.out; omega)
      have ST12 := Lib.hid (ST11.out.below hb12)
      clear ST11 hb12
      go_wp2_with fail
      refine (ckRule_any _ n L2 HLB.out (by omega) _ ST12.out.ta ST12.out.imV).mono ?_
      rintro e w13 ⟨rfl, hb13⟩
      have ST13 := Lib.hid (ST12.out.below hb13)
      obtain ⟨K, hK⟩ : ∃ K : Int, K = (((Im.of L2 n).exam.1 : Nat) : Int) := ⟨_, rfl⟩
      have hK3 : decide ((2 : Int) < K) = true := decide_eq_true (by have := H3.out; omega)
      have hK4 : (2 : Int) < K := by have := H3.out; omega
      rw [← hK]
      clear ST12 hb13 hK
      go_wp2_with fail
      refine (ckQuiet_any _ n L2 HLB.out (by omega) _ ST13.out.ta ST13.out.imV).mono ?_
      rintro e w14 ⟨rfl, hb14⟩
      rw [decide_eq_false (fun h : (Im.of L2 n).exam.1 = 0 ∧ (Im.of L2 n).o = 0 => by have := H3.out; have := h.1; omega)]
      have HB := Lib.hid (ST13.out.bel.trans (hb14.mono ST13.out.bel.size))
      clear ST13 hb14
      go_wp2_with fail
      go_ret
      exact ⟨rfl, HB.out⟩
    · obtain ⟨L2, hL2⟩ : ∃ L2, L2 = updN (mkB g s i j) a (bZ (setB (bt (mkB g s i j a)) b)) := ⟨_, rfl⟩
      rw [← hL2] at hr
      have HL2 := Lib.hid hL2
      have ST11 := Lib.hid (ST9.out.only ho hr)
      clear ST9 hL2
      have H3 : Hid (3 ≤ (Im.of L2 n).exam.1) := by rw [HL2.out]; exact HFL.out _ (fun q => by
        rw [bt_bZ]; unfold setB
        by_cases e : q = b
        · rw [if_pos e, if_pos e, e, hbt]; rfl
        · rw [if_neg e, if_neg e])
      have HLB : Hid (∀ c, Byt (L2 c)) := fun c => by
        rw [HL2.out]
        unfold updN
        split
        · exact bZ_byt _
        · exact HBY.out c
      clear hr ho hbt HL2
      go_wp2_with fail
      refine (ckImage_any _ n L2 HLB.out (by omega) _ ST11.out.ta ST11.out.imV).mono ?_
      rintro e w12 ⟨hp, hb12⟩
      rcases hp with ⟨_, rfl⟩ | ⟨h0, _⟩
      rotate_left
      · exact absurd h0 (by have := H3.out; omega)
      have ST12 := Lib.hid (ST11.out.below hb12)
      clear ST11 hb12
      go_wp2_with fail
      refine (ckRule_any _ n L2 HLB.out (by omega) _ ST12.out.ta ST12.out.imV).mono ?_
      rintro e w13 ⟨rfl, hb13⟩
      have ST13 := Lib.hid (ST12.out.below hb13)
      obtain ⟨K, hK⟩ : ∃ K : Int, K = (((Im.of L2 n).exam.1 : Nat) : Int) := ⟨_, rfl⟩
      have hK3 : decide ((2 : Int) < K) = true := decide_eq_true (by have := H3.out; omega)
      have hK4 : (2 : Int) < K := by have := H3.out; omega
      rw [← hK]
      clear ST12 hb13 hK
      go_wp2_with fail
      refine (ckQuiet_any _ n L2 HLB.out (by omega) _ ST13.out.ta ST13.out.imV).mono ?_
      rintro e w14 ⟨rfl, hb14⟩
      rw [decide_eq_false (fun h : (Im.of L2 n).exam.1 = 0 ∧ (Im.of L2 n).o = 0 => by have := H3.out; have := h.1; omega)]
      have HB := Lib.hid (ST13.out.bel.trans (hb14.mono ST13.out.bel.size))
      clear ST13 hb14
      go_wp2_with fail
      go_ret
      exact ⟨rfl, HB.out⟩
  | true =>
    rw [if_pos rfl] at hd
    subst hd
    subst ha
    go_wp2_with fail
    refine (bitSetA_any q n _ b han (by omega) hb2 (mkB g s i j) (HBY.out _) w9 ST9.out.im).mono ?_
    rintro e w10 (⟨hbt, rfl, m, hw⟩ | ⟨hbt, rfl, hr, ho⟩)
    · have ST10 : Hid (MwS w g s i j q n (mkB g s i j) w10) := by rw [hw]; exact ST9.out.below ⟨rfl, rfl, rfl, Nat.le_refl _, fun _ _ => rfl⟩
      clear ST9 hw
      go_wp2_with fail
      refine (bitClearA_any q n _ b han (by omega) hb2 (mkB g s i j) (HBY.out _) w10 ST10.out.im).mono ?_
      rintro e w11 (⟨hbt', _⟩ | ⟨_, rfl, hr, ho⟩)
      · rw [hbt] at hbt'; cases hbt'
      obtain ⟨L2, hL2⟩ : ∃ L2, L2 = updN (mkB g s i j) (A0 + 1) (bZ (clrB (bt (mkB g s i j (A0 + 1))) b)) := ⟨_, rfl⟩
      rw [← hL2] at hr
      have HL2 := Lib.hid hL2
      have ST11 := Lib.hid (ST10.out.only ho hr)
      clear ST10 hL2
      have H3 : Hid (3 ≤ (Im.of L2 n).exam.1) := by rw [HL2.out]; exact HFL.out _ (fun q => by
        rw [bt_bZ]; unfold clrB
        by_cases e : q = b
        · rw [if_pos e, if_pos e, e, hbt]; rfl
        · rw [if_neg e, if_neg e])
      have HLB : Hid (∀ c, Byt (L2 c)) := fun c => by
        rw [HL2.out]
        unfold updN
        split
        · exact bZ_byt _
        · exact HBY.out c
      clear hr ho hbt HL2
      go_wp2_with fail
      refine (ckImage_any _ n L2 HLB.out (by omega) _ ST11.out.ta ST11.out.imV).mono ?_
      rintro e w12 ⟨hp, hb12⟩
      rcases hp with ⟨_, rfl⟩ | ⟨h0, _⟩
      rotate_left
      · exact absurd h0 (by have := H3.out; omega)
      have ST12 := Lib.hid (ST11.out.below hb12)
      clear ST11 hb12
      go_wp2_with fail
      refine (ckRule_any _ n L2 HLB.out (by omega) _ ST12.out.ta ST12.out.imV).mono ?_
      rintro e w13 ⟨rfl, hb13⟩
      have ST13 := Lib.hid (ST12.out.below hb13)
      obtain ⟨K, hK⟩ : ∃ K : Int, K = (((Im.of L2 n).exam.1 : Nat) : Int) := ⟨_, rfl⟩
      have hK3 : decide ((2 : Int) < K) = true := decide_eq_true (by have := H3.out; omega)
      have hK4 : (2 : Int) < K := by have := H3.out; omega
      rw [← hK]
      clear ST12 hb13 hK
      go_wp2_with fail
      refine (ckQuiet_any _ n L2 HLB.out (by omega) _ ST13.out.ta ST13.out.imV).mono ?_
      rintro e w14 ⟨rfl, hb14⟩
      rw [decide_eq_false (fun h : (Im.of L2 n).exam.1 = 0 ∧ (Im.of L2 n).o = 0 => by have := H3.out; have := h.1; omega)]
      have HB := Lib.hid (ST13.out.bel.trans (hb14.mono ST13.out.bel.size))
      clear ST13 hb14
      go_wp2_with fail
      go_ret
      exact ⟨rfl, HB.out⟩
    · obtain ⟨L2, hL2⟩ : ∃ L2, L2 = updN (mkB g s i j) (A0 + 1) (bZ (setB (bt (mkB g s i j (A0 + 1))) b)) := ⟨_, rfl⟩
      rw [← hL2] at hr
      have HL2 := Lib.hid hL2
      have ST11 := Lib.hid (ST9.out.only ho hr)
      clear ST9 hL2
      have H3 : Hid (3 ≤ (Im.of L2 n).exam.1) := by rw [HL2.out]; exact HFL.out _ (fun q => by
        rw [bt_bZ]; unfold setB
        by_cases e : q = b
        · rw [if_pos e, if_pos e, e, hbt]; rfl
        · rw [if_neg e, if_neg e])
      have HLB : Hid (∀ c, Byt (L2 c)) := fun c => by
        rw [HL2.out]
        unfold updN
        split
        · exact bZ_byt _
        · exact HBY.out c
      clear hr ho hbt HL2
      go_wp2_with fail
      refine (ckImage_any _ n L2 HLB.out (by omega) _ ST11.out.ta ST11.out.imV).mono ?_
      rintro e w12 ⟨hp, hb12⟩
      rcases hp with ⟨_, rfl⟩ | ⟨h0, _⟩
      rotate_left
      · exact absurd h0 (by have := H3.out; omega)
      have ST12 := Lib.hid (ST11.out.below hb12)
      clear ST11 hb12
      go_wp2_with fail
      refine (ckRule_any _ n L2 HLB.out (by omega) _ ST12.out.ta ST12.out.imV).mono ?_
      rintro e w13 ⟨rfl, hb13⟩
      have ST13 := Lib.hid (ST12.out.below hb13)
      obtain ⟨K, hK⟩ : ∃ K : Int, K = (((Im.of L2 n).exam.1 : Nat) : Int) := ⟨_, rfl⟩
      have hK3 : decide ((2 : Int) < K) = true := decide_eq_true (by have := H3.out; omega)
      have hK4 : (2 : Int) < K := by have := H3.out; omega
      rw [← hK]
      clear ST12 hb13 hK
      go_wp2_with fail
      refine (ckQuiet_any _ n L2 HLB.out (by omega) _ ST13.out.ta ST13.out.imV).mono ?_
      rintro e w14 ⟨rfl, hb14⟩
      rw [decide_eq_false (fun h : (Im.of L2 n).exam.1 = 0 ∧ (Im.of L2 n).o = 0 => by have := H3.out; have := h.1; omega)]
      have HB := Lib.hid (ST13.out.bel.trans (hb14.mono ST13.out.bel.size))
      clear ST13 hb14
      go_wp2_with fail
      go_ret
      exact ⟨rfl, HB.out⟩
end Go.Proofs.YtnbmmhoofilmfaaGreatDoor
