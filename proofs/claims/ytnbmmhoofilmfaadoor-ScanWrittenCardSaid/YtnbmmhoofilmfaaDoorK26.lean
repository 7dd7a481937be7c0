/- Texts of this claim, merged by a program (a claim may have 60 files): Pk11. -/
import Derived.Test.YtnbmmhoofilmfaaDoorK25
/- pack.Unpack. -/
namespace Go.Proofs.YtnbmmhoofilmfaaDoor
open Go.RowKit
set_option linter.unusedVariables false

/-- what Unpack tells -/
def unp (L : Nat → Nat → Int) (N : Nat) (s : Int) : Option (Tr × Nat) :=
  match prs L (min N 255) s (min N 255) 0 (tr0 s) with
  | none => none
  | some (t, u) => if packE t = 0 ∧ sameB (pkB t) L (t.c + 1) u = true then some (t, u) else none
theorem unescB {z : Nat → Int} (hz : Byt z) : Byt (unescZ z) := byt_over hz (byt_byteOf _) _ _
/-- what is read fits its kinds -/
structure POk (t : Tr) (s : Int) (K : Nat) : Prop where
  s : t.s = s
  cb : ∀ i, 0 ≤ t.cb i ∧ t.cb i < 4294967296
  cd : ∀ i, Byt (t.cd i)
  rv : ∀ i, 0 ≤ t.rv i ∧ t.rv i < 4294967296
  n : t.n ≤ K
  m : t.m ≤ 60 * K
  cb0 : ∀ i, t.n ≤ i → t.cb i = 0
  rv0 : ∀ i, t.m ≤ i → t.rv i = 0
theorem POk.ok {t : Tr} {s : Int} {n : Nat} (h : POk t s n) (hs : 0 ≤ s ∧ s < 4294967296) (hn : n ≤ 255) : t.Ok :=
  ⟨by rw [h.s]; exact hs, fun i => by have := h.cb i; omega, h.cd, fun i => by have := h.rv i; omega, by have := h.n; omega, by have := h.m; omega, h.cb0, h.rv0⟩
theorem POk.zero (s : Int) : POk (tr0 s) s 0 := ⟨rfl, fun i => ⟨Int.le_refl 0, (by decide : (0 : Int) < 4294967296)⟩, fun i => zero_bytJ, fun i => ⟨Int.le_refl 0, (by decide : (0 : Int) < 4294967296)⟩, Nat.le_refl _, Nat.le_refl _, fun i _ => rfl, fun i _ => rfl⟩
theorem POk.addC {t : Tr} {s : Int} {n k u : Nat} {L : Nat → Nat → Int} {tb : Nat → Int} {te : Nat → Bool} (h : POk t s n) (hL : ∀ i, Byt (L i)) (htb : Wds tb) : POk (addC t L u k tb te) s (n + 1 + k) := by
  refine ⟨h.s, fun i => ?_, fun i => ?_, h.rv, by have := h.n; show t.n + k ≤ _; omega, by have := h.m; show t.m ≤ _; omega, fun i hi => ?_, h.rv0⟩
  · show 0 ≤ (if i < t.n then _ else if i < t.n + k then _ else _) ∧ (if i < t.n then _ else if i < t.n + k then _ else _) < _
    split
    · exact h.cb i
    · split
      · exact htb _
      · omega
  · show Byt (if i < t.n then _ else if i < t.n + k then _ else _)
    split
    · exact h.cd i
    · split
      · split
        · exact unescB (hL _)
        · exact hL _
      · exact zero_bytJ
  · show (if i < t.n then _ else if i < t.n + k then _ else _) = _
    have hi : t.n + k ≤ i := hi
    rw [if_neg (by omega), if_neg (by omega)]
theorem POk.addR {t : Tr} {s : Int} {n k : Nat} {m : Nat → Int} (h : POk t s n) (hk : k ≤ 60) (hm : Wds m) : POk (addR t k m) s (n + 1) := by
  refine ⟨h.s, h.cb, h.cd, fun i => ?_, by have := h.n; show t.n ≤ _; omega, by have := h.m; show t.m + k ≤ _; omega, h.cb0, fun i hi => ?_⟩
  · show 0 ≤ (if i < t.m then _ else if i < t.m + k then _ else _) ∧ (if i < t.m then _ else if i < t.m + k then _ else _) < _
    split
    · exact h.rv i
    · split
      · exact hm _
      · omega
  · show (if i < t.m then _ else if i < t.m + k then _ else _) = _
    have hi : t.m + k ≤ i := hi
    rw [if_neg (by omega), if_neg (by omega)]
theorem prs_pok {L : Nat → Nat → Int} (hL : ∀ i, Byt (L i)) {N : Nat} {s : Int} : ∀ (f n : Nat) (t t' : Tr) (u : Nat), POk t s n → n ≤ N → prs L N s f n t = some (t', u) → POk t' s N ∧ u ≤ N ∧ 0 < u
  | 0, n, t, t', u, h, hn, he => by cases he
  | f + 1, n, t, t', u, h, hn, he => by
    rw [prs] at he
    by_cases h1 : n < N
    · rw [if_pos h1] at he
      by_cases h2 : seqOf (L n) = s
      · rw [if_pos h2] at he
        by_cases h3 : kindOf (L n) = 1
        · rw [if_pos h3] at he
          by_cases h4 : descRd (L n) = true ∧ rowsN (L n) ≤ N - (n + 1)
          · rw [if_pos h4] at he
            exact prs_pok hL f _ _ t' u (h.addC hL (fun i => wd_wds (hL n) (4 + 2 * i))) (by omega) he
          · rw [if_neg h4] at he; cases he
        · rw [if_neg h3] at he
          by_cases h4 : kindOf (L n) = 3
          · rw [if_pos h4] at he
            by_cases h5 : revRd (L n) = true
            · rw [if_pos h5] at he
              have hk60 : rowsN (L n) ≤ 60 := by
                unfold revRd at h5
                simp only [Bool.and_eq_true, decide_eq_true_eq] at h5
                unfold rowsN; omega
              exact prs_pok hL f _ _ t' u (h.addR hk60 (fun i => wd_wds (hL n) (4 + i))) (by omega) he
            · rw [if_neg h5] at he; cases he
          · rw [if_neg h4] at he
            by_cases h5 : kindOf (L n) = 2
            · rw [if_pos h5] at he
              injection he with he
              injection he with e1 e2
              subst e1 e2
              exact ⟨⟨h.s, h.cb, h.cd, h.rv, by have := h.n; omega, by have := h.m; omega, h.cb0, h.rv0⟩, by omega, by omega⟩
            · rw [if_neg h5] at he; cases he
      · rw [if_neg h2] at he; cases he
    · rw [if_neg h1] at he; cases he
theorem RRow.take {w : World} {a : Option Addr} {m n : Nat} {f : Nat → List Value} (h : RRow w a m n f) (k : Nat) (hk : k ≤ n) : RRow w a m k f := by
  rcases h with h | ⟨b, off, rfl, h⟩
  · exact .inl (by omega)
  · exact .inr ⟨b, off, rfl, fun i hi => h i (by omega)⟩

set_option maxRecDepth 100000 in
set_option maxHeartbeats 8000000 in
theorem rcap {w : World} {base : Nat} {e : TypeId} {m : Nat} {a : Option Addr} {n cap : Nat} {f : Nat → List Value} (h : RMine w base e m (.slice a n cap) n f) : n ≤ cap := by
  rcases h.2 with ⟨hv, h0⟩ | ⟨g, cap', cur, hv, hb, hg, hn, hc, hs, ht⟩
  · omega
  · injection hv with e1 e2 e3; omega
set_option maxRecDepth 100000 in
set_option maxHeartbeats 8000000 in
theorem unpack_any (la : Option Addr) (N lcap : Nat) (L : Nat → Nat → Int) (hL : ∀ i, Byt (L i)) (s : Int) (hs : 0 ≤ s ∧ s < 4294967296) (hN : N ≤ lcap) (hc : (lcap : Int) ≤ 9223372036854775807) (w : World) (hT : Tab w) (hl : RRow w la 256 N (bkF L)) (hla : ∀ b off, la = some ⟨b, off, none⟩ → b < w.heap.size) :
    Calls Tryd.prog 101 #[.slice la N lcap, .int .u32 s] w fun e w' => ParsePost w s (unp L N s) e w' ∧ Below w.heap.size w w' := by
  have halt := zero_trans
  have hTl := hT.lt
  have hb0 := At.new w 51 (tcells 0 none 0 0 none 0 0)
  have HL0 : Hid (Below w.heap.size w (w.alloc (.cells (tcells 0 none 0 0 none 0 0) 51))) := (Below.refl _ _).alloc (Nat.le_refl _) _
  have HT0 := Lib.hid (hT.alloc (.cells (tcells 0 none 0 0 none 0 0) 51))
  have HR0 := Lib.hid (hl.alloc (.cells (tcells 0 none 0 0 none 0 0) 51))
  have HB0 := Lib.hid hb0
  have HLA : Hid (∀ b off, la = some ⟨b, off, none⟩ → b < w.heap.size) := hla
  clear hT hl hla hb0
  by_cases h255 : (N : Int) ≤ 255
  · have hK : N ≤ 255 := by omega
    have hKN : N ≤ N := by omega
    have HU : Hid (unp L N s = match prs L N s N 0 (tr0 s) with
  | none => none
  | some (t, u) => if packE t = 0 ∧ sameB (pkB t) L (t.c + 1) u = true then some (t, u) else none) := by show _ = _; unfold unp; rw [show min N 255 = N by omega]
    go_enter Tryd.func101, Tryd.ntmps101
    go_wp2_with fail
    refine (parse_any la N lcap L hL s hs hK _ (HR0.out.take N hKN) (fun b off e => by have := HLA.out b off e; rw [World.size_alloc]; omega)).mono ?_
    rintro e w1 ⟨hp, hb1⟩
    have HB1 := HB0.out.below hb1 HB0.out.lt
    have HT1 := HT0.out.below hb1 (Nat.le_refl _)
    have HR1 := HR0.out.below (by intro e; cases e) hb1
    have HL1 := Lib.hid (HL0.out.trans (hb1.mono (by rw [World.size_alloc]; omega)))
    have hsz1 := hb1.size
    rw [World.size_alloc] at hsz1
    rcases hp with ⟨hn, rfl⟩ | ⟨t, u, ca, cc, ra, rc, ht, rfl, hC, hR⟩
    · have HN : Hid (unp L N s = none) := by show _ = _; rw [HU.out, hn]
      clear hn HU HT0 HR0 HB0 hb1
      have ht1 := Lib.hid HT1
      have hr1 := Lib.hid HR1
      clear HT1 HR1
      go_wp2_with (first | (refine wp_storeAt rfl 51 (.tmp 4) (.tmp 17) rfl w.heap.size (tcells 0 none 0 0 none 0 0) _ rfl rfl HB1 (info_trans 0 none 0 0 none 0 0) rfl (by kernel_rfl) ?_))
      intro w2 hB2 ho2
      have HL2 := Lib.hid (HL1.out.trans (ho2.below (Nat.le_refl _)))
      clear ho2 HB1
      go_wp2_with (first | (refine wp_storeAt rfl 51 (.tmp 4) (.tmp 22) rfl w.heap.size (tcells 0 none 0 0 none 0 0) _ rfl rfl hB2 (info_trans 0 none 0 0 none 0 0) rfl (by kernel_rfl) ?_))
      intro wz hBz hoz
      have HLZ := Lib.hid (HL2.out.trans (hoz.below (Nat.le_refl _)))
      clear hoz hB2
      go_wp2_with fail
      exact bodyPost_ret (results_prs rfl _ _ _ rfl hBz) rfl ⟨.inl ⟨HN.out, rfl⟩, HLZ.out⟩
    · obtain ⟨hpok, hu, hu0⟩ := prs_pok hL N 0 (tr0 s) t u (POk.zero s) (Nat.zero_le _) ht
      have hok := hpok.ok hs hK
      have hU : unp L N s = if packE t = 0 ∧ sameB (pkB t) L (t.c + 1) u = true then some (t, u) else none := by rw [HU.out, ht]
      have HU2 := Lib.hid hU
      have HTS : Hid (t.s = s) := hpok.s
      clear ht hU HU HT0 HR0 HB0 hb1
      have hcl : ∀ b off, ca = some ⟨b, off, none⟩ → b < w1.heap.size := fun b off e => (World.ownsRow.lt hC b (by rw [e]; rfl)).2
      have hrl : ∀ b off, ra = some ⟨b, off, none⟩ → b < w1.heap.size := fun b off e => (World.ownsRow.lt hR b (by rw [e]; rfl)).2
      have hcq : ∀ b off, ca = some ⟨b, off, none⟩ → w.heap.size < b := fun b off e => by have := (World.ownsRow.lt hC b (by rw [e]; rfl)).1; rw [World.size_alloc] at this; omega
      have hrq : ∀ b off, ra = some ⟨b, off, none⟩ → w.heap.size < b := fun b off e => by have := (World.ownsRow.lt hR b (by rw [e]; rfl)).1; rw [World.size_alloc] at this; omega
      have hcc : t.n ≤ cc := rcap hC
      have hrc : t.m ≤ rc := rcap hR
      have hC' := Lib.hid (RMine.low (base' := w.heap.size + 1) hC (by rw [World.size_alloc]; omega))
      have hR' := Lib.hid (RMine.low (base' := w.heap.size + 1) hR (by rw [World.size_alloc]; omega))
      have ht1 := Lib.hid HT1
      have hr1 := Lib.hid HR1
      clear HT1 HR1 hC hR
      go_wp2_with (first | (refine wp_storeAt rfl 51 (.tmp 4) (.tmp 17) rfl w.heap.size (tcells s ca t.n cc ra t.m rc) _ rfl rfl HB1 (info_trans _ _ _ _ _ _ _) rfl (by kernel_rfl) ?_))
      intro w2 hB2 ho2
      have hC2 := own_only hC'.out ho2 (fun e => by have := (World.ownsRow.lt hC'.out _ e).1; omega)
      have hR2 := own_only hR'.out ho2 (fun e => by have := (World.ownsRow.lt hR'.out _ e).1; omega)
      have hr2 := RRow.only hr1.out ho2 (fun b off e => by have := HLA.out b off e; omega)
      have hT2 := ht1.out.only ho2 (by show _ ≠ (0 : Nat); omega)
      have hs2 := ho2.size
      have hL2 := HL1.out.trans (ho2.below (Nat.le_refl _))
      have hpk := pack_any t hok ca cc ra rc w2 hT2 (RMine.row hC2 (cpF_len t.cb t.cd)) (RMine.row hR2 (fun i => rfl)) (fun b off e => by have := hcl b off e; omega) (fun b off e => by have := hrl b off e; omega) hcc hrc
      rw [HTS.out] at hpk
      have HPK := Lib.hid hpk
      have HC2 := Lib.hid hC2
      have HR2 := Lib.hid hR2
      have HLL := Lib.hid hL2
      have Hr2 := Lib.hid hr2
      clear hpk hC2 hR2 hT2 hr2 hL2 hC' hR' ht1 hr1 ho2 HB1 hcl hrl HTS HL1
      go_wp2_with (first | (refine wp_loadAtG rfl 51 (.tmp 4) rfl _ _ _ rfl hB2 Tryd.underlying51 rfl (info_trans _ _ _ _ _ _ _) ?_))
      refine HPK.out.mono ?_
      rintro e w3 ⟨hp, hb3⟩
      have hB3 := hB2.below hb3 hB2.lt
      have HC3 := Lib.hid (RMine.below HC2.out hb3)
      have HR3 := Lib.hid (RMine.below HR2.out hb3)
      have hr3 := Lib.hid (Hr2.out.below (by intro e; cases e) hb3)
      have HL3 := Lib.hid (HLL.out.trans (hb3.mono HLL.out.size))
      clear HC2 HR2 Hr2 HLL HPK hB2
      rcases hp with ⟨hE, rfl⟩ | ⟨hE, q, rfl, hq, hq3⟩
      · have HN : Hid (unp L N s = none) := by show _ = _; rw [HU2.out, if_neg (fun h => hE h.1)]
        have qE : (packE t == 0) = false := by rw [beq_eq_false_iff_ne]; exact hE
        have qE' : (packE t != 0) = true := by rw [bne, qE]; rfl
        have HE := Lib.hid hE
        clear hE HU2 hb3 hs2 HC3 HR3
        go_wp2_with (first | (refine wp_storeAt rfl 51 (.tmp 4) (.tmp 38) rfl w.heap.size (tcells 0 none 0 0 none 0 0) _ rfl rfl hB3 (info_trans 0 none 0 0 none 0 0) rfl (by kernel_rfl) ?_))
        intro wz hBz hoz
        have HLZ := Lib.hid (HL3.out.trans (hoz.below (Nat.le_refl _)))
        clear hoz hB3
        go_wp2_with fail
        exact bodyPost_ret (results_prs rfl _ _ _ rfl hBz) rfl ⟨.inl ⟨HN.out, rfl⟩, HLZ.out⟩
      · have HU3 : Hid (unp L N s = if sameB (pkB t) L (t.c + 1) u = true then some (t, u) else none) := by
          show _ = _; rw [HU2.out]; simp only [hE, true_and]
        have HQ3 := Lib.hid hq3
        have hcc1 : ((t.c + 1 : Nat) : Int) ≤ 9223372036854775807 := by have h1 := hq3.le; have : maxLen ≤ 9223372036854775807 := by decide
                                                                        omega
        have hul : (u : Int) ≤ (lcap : Int) := by omega
        have HE := Lib.hid hE
        clear hE HU2 hb3 hs2 hq3
        go_wp2_with fail
        refine (slicesEqual_any (some ⟨q, 0, none⟩) la (t.c + 1) u (t.c + 1) lcap (pkB t) L hcc1 (by omega) w3 (.inr ⟨q, 0, rfl, HQ3.out.seg⟩) (hr3.out.take u (by omega))).mono ?_
        rintro e w4 ⟨rfl, d, rfl⟩
        have hB4 : At (w3.drewN d) w.heap.size 51 (tcells s ca t.n cc ra t.m rc) := hB3.below (bel_drewN (Below.refl _ _) d) hB3.lt
        have HC4 := Lib.hid (RMine.below HC3.out (bel_drewN (Below.refl _ _) d))
        have HR4 := Lib.hid (RMine.below HR3.out (bel_drewN (Below.refl _ _) d))
        have HL4 : Hid (Below w.heap.size w (w3.drewN d)) := bel_drewN HL3.out d
        obtain ⟨w5, hw5⟩ : ∃ w5, w5 = w3.drewN d := ⟨_, rfl⟩
        rw [← hw5] at hB4 HC4 HR4 HL4 ⊢
        clear hw5 HC3 HR3 HL3 hB3 hr3 HQ3
        cases hsb : sameB (pkB t) L (t.c + 1) u with
        | false =>
          have HN : Hid (unp L N s = none) := by show _ = _; rw [HU3.out, hsb]; rfl
          clear hsb HU3
          go_wp2_with (first | (refine wp_storeAt rfl 51 (.tmp 4) (.tmp 38) rfl w.heap.size (tcells 0 none 0 0 none 0 0) _ rfl rfl hB4 (info_trans 0 none 0 0 none 0 0) rfl (by kernel_rfl) ?_))
          intro wz hBz hoz
          have HLZ := Lib.hid (HL4.out.trans (hoz.below (Nat.le_refl _)))
          clear hoz hB4
          go_wp2_with fail
          exact bodyPost_ret (results_prs rfl _ _ _ rfl hBz) rfl ⟨.inl ⟨HN.out, rfl⟩, HLZ.out⟩
        | true =>
          have HN : Hid (unp L N s = some (t, u)) := by show _ = _; rw [HU3.out, hsb]; rfl
          clear hsb HU3
          go_wp2_with (first | (refine wp_loadAtG rfl 51 (.tmp 4) rfl _ _ _ rfl hB4 Tryd.underlying51 rfl (info_trans _ _ _ _ _ _ _) ?_) | (refine wp_storeAt rfl 51 (.tmp 4) (.tmp 39) rfl w.heap.size (tcells s ca t.n cc ra t.m rc) _ rfl rfl hB4 (info_trans _ _ _ _ _ _ _) rfl (by kernel_rfl) ?_))
          intro wz hBz hoz
          have HCZ := Lib.hid (own_only HC4.out hoz (fun e => by have := (World.ownsRow.lt HC4.out _ e).1; omega))
          have HRZ := Lib.hid (own_only HR4.out hoz (fun e => by have := (World.ownsRow.lt HR4.out _ e).1; omega))
          have HLZ := Lib.hid (HL4.out.trans (hoz.below (Nat.le_refl _)))
          clear hoz hB4
          go_wp2_with fail
          exact bodyPost_ret (results_prs rfl _ _ _ rfl hBz) rfl ⟨.inr ⟨t, u, ca, cc, ra, rc, HN.out, rfl, HCZ.out, HRZ.out⟩, HLZ.out⟩
  · have hK : 255 ≤ 255 := by omega
    have hKN : 255 ≤ N := by omega
    have HU : Hid (unp L N s = match prs L 255 s 255 0 (tr0 s) with
  | none => none
  | some (t, u) => if packE t = 0 ∧ sameB (pkB t) L (t.c + 1) u = true then some (t, u) else none) := by show _ = _; unfold unp; rw [show min N 255 = 255 by omega]
    go_enter Tryd.func101, Tryd.ntmps101
    go_wp2_with fail
    refine (parse_any la 255 lcap L hL s hs hK _ (HR0.out.take 255 hKN) (fun b off e => by have := HLA.out b off e; rw [World.size_alloc]; omega)).mono ?_
    rintro e w1 ⟨hp, hb1⟩
    have HB1 := HB0.out.below hb1 HB0.out.lt
    have HT1 := HT0.out.below hb1 (Nat.le_refl _)
    have HR1 := HR0.out.below (by intro e; cases e) hb1
    have HL1 := Lib.hid (HL0.out.trans (hb1.mono (by rw [World.size_alloc]; omega)))
    have hsz1 := hb1.size
    rw [World.size_alloc] at hsz1
    rcases hp with ⟨hn, rfl⟩ | ⟨t, u, ca, cc, ra, rc, ht, rfl, hC, hR⟩
    · have HN : Hid (unp L N s = none) := by show _ = _; rw [HU.out, hn]
      clear hn HU HT0 HR0 HB0 hb1
      have ht1 := Lib.hid HT1
      have hr1 := Lib.hid HR1
      clear HT1 HR1
      go_wp2_with (first | (refine wp_storeAt rfl 51 (.tmp 4) (.tmp 17) rfl w.heap.size (tcells 0 none 0 0 none 0 0) _ rfl rfl HB1 (info_trans 0 none 0 0 none 0 0) rfl (by kernel_rfl) ?_))
      intro w2 hB2 ho2
      have HL2 := Lib.hid (HL1.out.trans (ho2.below (Nat.le_refl _)))
      clear ho2 HB1
      go_wp2_with (first | (refine wp_storeAt rfl 51 (.tmp 4) (.tmp 22) rfl w.heap.size (tcells 0 none 0 0 none 0 0) _ rfl rfl hB2 (info_trans 0 none 0 0 none 0 0) rfl (by kernel_rfl) ?_))
      intro wz hBz hoz
      have HLZ := Lib.hid (HL2.out.trans (hoz.below (Nat.le_refl _)))
      clear hoz hB2
      go_wp2_with fail
      exact bodyPost_ret (results_prs rfl _ _ _ rfl hBz) rfl ⟨.inl ⟨HN.out, rfl⟩, HLZ.out⟩
    · obtain ⟨hpok, hu, hu0⟩ := prs_pok hL 255 0 (tr0 s) t u (POk.zero s) (Nat.zero_le _) ht
      have hok := hpok.ok hs hK
      have hU : unp L N s = if packE t = 0 ∧ sameB (pkB t) L (t.c + 1) u = true then some (t, u) else none := by rw [HU.out, ht]
      have HU2 := Lib.hid hU
      have HTS : Hid (t.s = s) := hpok.s
      clear ht hU HU HT0 HR0 HB0 hb1
      have hcl : ∀ b off, ca = some ⟨b, off, none⟩ → b < w1.heap.size := fun b off e => (World.ownsRow.lt hC b (by rw [e]; rfl)).2
      have hrl : ∀ b off, ra = some ⟨b, off, none⟩ → b < w1.heap.size := fun b off e => (World.ownsRow.lt hR b (by rw [e]; rfl)).2
      have hcq : ∀ b off, ca = some ⟨b, off, none⟩ → w.heap.size < b := fun b off e => by have := (World.ownsRow.lt hC b (by rw [e]; rfl)).1; rw [World.size_alloc] at this; omega
      have hrq : ∀ b off, ra = some ⟨b, off, none⟩ → w.heap.size < b := fun b off e => by have := (World.ownsRow.lt hR b (by rw [e]; rfl)).1; rw [World.size_alloc] at this; omega
      have hcc : t.n ≤ cc := rcap hC
      have hrc : t.m ≤ rc := rcap hR
      have hC' := Lib.hid (RMine.low (base' := w.heap.size + 1) hC (by rw [World.size_alloc]; omega))
      have hR' := Lib.hid (RMine.low (base' := w.heap.size + 1) hR (by rw [World.size_alloc]; omega))
      have ht1 := Lib.hid HT1
      have hr1 := Lib.hid HR1
      clear HT1 HR1 hC hR
      go_wp2_with (first | (refine wp_storeAt rfl 51 (.tmp 4) (.tmp 17) rfl w.heap.size (tcells s ca t.n cc ra t.m rc) _ rfl rfl HB1 (info_trans _ _ _ _ _ _ _) rfl (by kernel_rfl) ?_))
      intro w2 hB2 ho2
      have hC2 := own_only hC'.out ho2 (fun e => by have := (World.ownsRow.lt hC'.out _ e).1; omega)
      have hR2 := own_only hR'.out ho2 (fun e => by have := (World.ownsRow.lt hR'.out _ e).1; omega)
      have hr2 := RRow.only hr1.out ho2 (fun b off e => by have := HLA.out b off e; omega)
      have hT2 := ht1.out.only ho2 (by show _ ≠ (0 : Nat); omega)
      have hs2 := ho2.size
      have hL2 := HL1.out.trans (ho2.below (Nat.le_refl _))
      have hpk := pack_any t hok ca cc ra rc w2 hT2 (RMine.row hC2 (cpF_len t.cb t.cd)) (RMine.row hR2 (fun i => rfl)) (fun b off e => by have := hcl b off e; omega) (fun b off e => by have := hrl b off e; omega) hcc hrc
      rw [HTS.out] at hpk
      have HPK := Lib.hid hpk
      have HC2 := Lib.hid hC2
      have HR2 := Lib.hid hR2
      have HLL := Lib.hid hL2
      have Hr2 := Lib.hid hr2
      clear hpk hC2 hR2 hT2 hr2 hL2 hC' hR' ht1 hr1 ho2 HB1 hcl hrl HTS HL1
      go_wp2_with (first | (refine wp_loadAtG rfl 51 (.tmp 4) rfl _ _ _ rfl hB2 Tryd.underlying51 rfl (info_trans _ _ _ _ _ _ _) ?_))
      refine HPK.out.mono ?_
      rintro e w3 ⟨hp, hb3⟩
      have hB3 := hB2.below hb3 hB2.lt
      have HC3 := Lib.hid (RMine.below HC2.out hb3)
      have HR3 := Lib.hid (RMine.below HR2.out hb3)
      have hr3 := Lib.hid (Hr2.out.below (by intro e; cases e) hb3)
      have HL3 := Lib.hid (HLL.out.trans (hb3.mono HLL.out.size))
      clear HC2 HR2 Hr2 HLL HPK hB2
      rcases hp with ⟨hE, rfl⟩ | ⟨hE, q, rfl, hq, hq3⟩
      · have HN : Hid (unp L N s = none) := by show _ = _; rw [HU2.out, if_neg (fun h => hE h.1)]
        have qE : (packE t == 0) = false := by rw [beq_eq_false_iff_ne]; exact hE
        have qE' : (packE t != 0) = true := by rw [bne, qE]; rfl
        have HE := Lib.hid hE
        clear hE HU2 hb3 hs2 HC3 HR3
        go_wp2_with (first | (refine wp_storeAt rfl 51 (.tmp 4) (.tmp 38) rfl w.heap.size (tcells 0 none 0 0 none 0 0) _ rfl rfl hB3 (info_trans 0 none 0 0 none 0 0) rfl (by kernel_rfl) ?_))
        intro wz hBz hoz
        have HLZ := Lib.hid (HL3.out.trans (hoz.below (Nat.le_refl _)))
        clear hoz hB3
        go_wp2_with fail
        exact bodyPost_ret (results_prs rfl _ _ _ rfl hBz) rfl ⟨.inl ⟨HN.out, rfl⟩, HLZ.out⟩
      · have HU3 : Hid (unp L N s = if sameB (pkB t) L (t.c + 1) u = true then some (t, u) else none) := by
          show _ = _; rw [HU2.out]; simp only [hE, true_and]
        have HQ3 := Lib.hid hq3
        have hcc1 : ((t.c + 1 : Nat) : Int) ≤ 9223372036854775807 := by have h1 := hq3.le; have : maxLen ≤ 9223372036854775807 := by decide
                                                                        omega
        have hul : (u : Int) ≤ (lcap : Int) := by omega
        have HE := Lib.hid hE
        clear hE HU2 hb3 hs2 hq3
        go_wp2_with fail
        refine (slicesEqual_any (some ⟨q, 0, none⟩) la (t.c + 1) u (t.c + 1) lcap (pkB t) L hcc1 (by omega) w3 (.inr ⟨q, 0, rfl, HQ3.out.seg⟩) (hr3.out.take u (by omega))).mono ?_
        rintro e w4 ⟨rfl, d, rfl⟩
        have hB4 : At (w3.drewN d) w.heap.size 51 (tcells s ca t.n cc ra t.m rc) := hB3.below (bel_drewN (Below.refl _ _) d) hB3.lt
        have HC4 := Lib.hid (RMine.below HC3.out (bel_drewN (Below.refl _ _) d))
        have HR4 := Lib.hid (RMine.below HR3.out (bel_drewN (Below.refl _ _) d))
        have HL4 : Hid (Below w.heap.size w (w3.drewN d)) := bel_drewN HL3.out d
        obtain ⟨w5, hw5⟩ : ∃ w5, w5 = w3.drewN d := ⟨_, rfl⟩
        rw [← hw5] at hB4 HC4 HR4 HL4 ⊢
        clear hw5 HC3 HR3 HL3 hB3 hr3 HQ3
        cases hsb : sameB (pkB t) L (t.c + 1) u with
        | false =>
          have HN : Hid (unp L N s = none) := by show _ = _; rw [HU3.out, hsb]; rfl
          clear hsb HU3
          go_wp2_with (first | (refine wp_storeAt rfl 51 (.tmp 4) (.tmp 38) rfl w.heap.size (tcells 0 none 0 0 none 0 0) _ rfl rfl hB4 (info_trans 0 none 0 0 none 0 0) rfl (by kernel_rfl) ?_))
          intro wz hBz hoz
          have HLZ := Lib.hid (HL4.out.trans (hoz.below (Nat.le_refl _)))
          clear hoz hB4
          go_wp2_with fail
          exact bodyPost_ret (results_prs rfl _ _ _ rfl hBz) rfl ⟨.inl ⟨HN.out, rfl⟩, HLZ.out⟩
        | true =>
          have HN : Hid (unp L N s = some (t, u)) := by show _ = _; rw [HU3.out, hsb]; rfl
          clear hsb HU3
          go_wp2_with (first | (refine wp_loadAtG rfl 51 (.tmp 4) rfl _ _ _ rfl hB4 Tryd.underlying51 rfl (info_trans _ _ _ _ _ _ _) ?_) | (refine wp_storeAt rfl 51 (.tmp 4) (.tmp 39) rfl w.heap.size (tcells s ca t.n cc ra t.m rc) _ rfl rfl hB4 (info_trans _ _ _ _ _ _ _) rfl (by kernel_rfl) ?_))
          intro wz hBz hoz
          have HCZ := Lib.hid (own_only HC4.out hoz (fun e => by have := (World.ownsRow.lt HC4.out _ e).1; omega))
          have HRZ := Lib.hid (own_only HR4.out hoz (fun e => by have := (World.ownsRow.lt HR4.out _ e).1; omega))
          have HLZ := Lib.hid (HL4.out.trans (hoz.below (Nat.le_refl _)))
          clear hoz hB4
          go_wp2_with fail
          exact bodyPost_ret (results_prs rfl _ _ _ rfl hBz) rfl ⟨.inr ⟨t, u, ca, cc, ra, rc, HN.out, rfl, HCZ.out, HRZ.out⟩, HLZ.out⟩
end Go.Proofs.YtnbmmhoofilmfaaDoor
