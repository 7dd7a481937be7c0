/- Texts merged: Pk21, R9g, Pk22, Pk23. -/
import Derived.Test.YthkalmdpbhjafaaDoorMg2
import Derived.Test.YthkalmdpbhjafaaDoorR9f
import Derived.Test.YthkalmdpbhjafaaDoorR9l
import Derived.Test.YthkalmdpbhjafaaDoorR9i
/- What the reference unpacks, plainly. -/
namespace Go.Proofs.YthkalmdpbhjafaaDoor
open Go.RowKit
set_option linter.unusedVariables false

/-- behind its 256 bytes all noughts -/
def NfB (z : Nat → Int) : Prop := ∀ j, 256 ≤ j → z j = 0
theorem byteOf_nought (i : Nat) : byteOf 0 i = 0 := by unfold byteOf; simp
theorem nf_zero : NfB (fun _ => 0) := fun _ _ => rfl
theorem nf_wz {l : Nat → Int} (h : ∀ k, 64 ≤ k → l k = 0) : NfB (wz l) := fun j hj => by
  show byteOf (l (j / 4)) (j % 4) = 0
  rw [h _ (by omega), byteOf_nought]
theorem nf_desc (s : Int) (n : Nat) (tb : Nat → Int) (te : Nat → Bool) : NfB (descZ s n tb te) := by
  unfold descZ
  split
  · next h =>
    unfold descOk at h
    rw [Bool.and_eq_true, Bool.and_eq_true, decide_eq_true_eq] at h
    refine nf_wz fun k hk => ?_
    unfold jw tagR
    rw [if_neg (by omega), if_neg (by omega), if_neg (by omega), if_neg (by omega), if_neg (by omega)]
  · exact nf_zero
theorem nf_rev (s : Int) (n : Nat) (m : Nat → Int) : NfB (revZ s n m) := by
  unfold revZ
  split
  · next h =>
    unfold revOk at h
    rw [Bool.and_eq_true, Bool.and_eq_true, decide_eq_true_eq] at h
    refine nf_wz fun k hk => ?_
    unfold jw numR
    rw [if_neg (by omega), if_neg (by omega), if_neg (by omega), if_neg (by omega), if_neg (by omega)]
  · exact nf_zero
theorem nf_commit (s n v : Int) : NfB (commitZ s n v) := by
  unfold commitZ
  split
  · refine nf_wz fun k hk => ?_
    unfold jw sumR
    rw [if_neg (by omega), if_neg (by omega), if_neg (by omega), if_neg (by omega), if_neg (by omega)]
  · exact nf_zero
theorem nf_over {z : Nat → Int} (h : NfB z) (f : Nat → Int) : NfB (over z 0 4 f) := fun j hj => by unfold over; rw [if_neg (by omega)]; exact h j hj
theorem nf_esc {z : Nat → Int} (h : NfB z) : NfB (escZ z) := by
  unfold escZ; split
  · exact nf_over h _
  · exact h
theorem nf_unesc {z : Nat → Int} (h : NfB z) : NfB (unescZ z) := nf_over h _
theorem nf_pk {t : Tr} (h : ∀ i, NfB (t.cd i)) (i : Nat) : NfB (pkB t i) := by
  unfold pkB pk0
  split
  · split
    · split
      · exact nf_desc _ _ _ _
      · exact nf_esc (h _)
    · exact nf_rev _ _ _
  · exact nf_commit _ _ _
theorem nf_eq {y z : Nat → Int} (hy : NfB y) (hz : NfB z) (h : ∀ j, j < 256 → y j = z j) : y = z := by
  funext j
  by_cases hj : j < 256
  · exact h j hj
  · rw [hy j (by omega), hz j (by omega)]

/-- what blocks tell, whatever they are -/
def tel (L : Nat → Nat → Int) (N : Nat) : Nat → Nat → Tr → Tr
  | 0, _, t => t
  | f + 1, u, t =>
    if u < N then
      if descRd (L u) = true then
        if rowsN (L u) ≤ N - (u + 1) then tel L N f (u + 1 + rowsN (L u)) (addC t L (u + 1) (rowsN (L u)) (descT (L u)) (descE (L u)))
        else addC t L (u + 1) (N - (u + 1)) (descT (L u)) (descE (L u))
      else if revRd (L u) = true then tel L N f (u + 1) (addR t (rowsN (L u)) (revM (L u)))
      else tel L N f (u + 1) t
    else t
theorem tel_fuel (L : Nat → Nat → Int) (N : Nat) : ∀ (f g u : Nat) (t : Tr), N - u ≤ f → N - u ≤ g → tel L N f u t = tel L N g u t
  | 0, 0, _, _, _, _ => rfl
  | 0, g + 1, u, t, h, _ => by unfold tel; rw [if_neg (by omega)]
  | f + 1, 0, u, t, _, h => by unfold tel; rw [if_neg (by omega)]
  | f + 1, g + 1, u, t, h1, h2 => by
    rw [tel, tel]
    by_cases hu : u < N
    · rw [if_pos hu, if_pos hu, tel_fuel L N f g (u + 1 + rowsN (L u)) _ (by omega) (by omega), tel_fuel L N f g (u + 1) _ (by omega) (by omega), tel_fuel L N f g (u + 1) t (by omega) (by omega)]
    · rw [if_neg hu, if_neg hu]
theorem tel_step (L : Nat → Nat → Int) (N : Nat) (u : Nat) (t : Tr) (hu : u < N) : tel L N (N - u) u t =
    if descRd (L u) = true then
      if rowsN (L u) ≤ N - (u + 1) then tel L N (N - (u + 1 + rowsN (L u))) (u + 1 + rowsN (L u)) (addC t L (u + 1) (rowsN (L u)) (descT (L u)) (descE (L u)))
      else addC t L (u + 1) (N - (u + 1)) (descT (L u)) (descE (L u))
    else if revRd (L u) = true then tel L N (N - (u + 1)) (u + 1) (addR t (rowsN (L u)) (revM (L u)))
    else tel L N (N - (u + 1)) (u + 1) t := by
  obtain ⟨f, hf⟩ : ∃ f, N - u = f + 1 := ⟨N - u - 1, by omega⟩
  rw [hf, tel, if_pos hu, tel_fuel L N f (N - (u + 1 + rowsN (L u))) _ _ (by omega) (by omega), tel_fuel L N f (N - (u + 1)) _ (addR t (rowsN (L u)) (revM (L u))) (by omega) (by omega), tel_fuel L N f (N - (u + 1)) _ t (by omega) (by omega)]
theorem tel_end (L : Nat → Nat → Int) (N : Nat) (u : Nat) (t : Tr) (hu : ¬ u < N) : tel L N (N - u) u t = t := by
  rw [show N - u = 0 by omega, tel]
theorem desc30 {z : Nat → Int} (h : descRd z = true) : 1 ≤ rowsN z ∧ rowsN z ≤ 30 ∧ kindOf z = 1 := by
  unfold descRd at h
  simp only [Bool.and_eq_true, decide_eq_true_eq, beq_iff_eq] at h
  unfold rowsN; omega
theorem rev60 {z : Nat → Int} (h : revRd z = true) : rowsN z ≤ 60 ∧ kindOf z = 3 := by
  unfold revRd at h
  simp only [Bool.and_eq_true, decide_eq_true_eq, beq_iff_eq] at h
  unfold rowsN; omega
theorem addC_nf {t : Tr} {L : Nat → Nat → Int} {u k : Nat} {tb : Nat → Int} {te : Nat → Bool} (h : ∀ i, NfB (t.cd i)) (hL : ∀ i, NfB (L i)) (i : Nat) : NfB ((addC t L u k tb te).cd i) := by
  show NfB (if i < t.n then _ else if i < t.n + k then _ else _)
  split
  · exact h i
  · split
    · split
      · exact nf_unesc (hL _)
      · exact hL _
    · exact nf_zero
theorem addC_z {t : Tr} {L : Nat → Nat → Int} {u k : Nat} {tb : Nat → Int} {te : Nat → Bool} (i : Nat) (hi : (addC t L u k tb te).n ≤ i) : (addC t L u k tb te).cd i = fun _ => 0 := by
  have hi : t.n + k ≤ i := hi
  show (if i < t.n then _ else if i < t.n + k then _ else _) = _
  rw [if_neg (by omega), if_neg (by omega)]
/-- what holds of it -/
structure TOk (t : Tr) (s : Int) (K : Nat) : Prop where
  p : POk t s K
  nf : ∀ i, NfB (t.cd i)
  z : ∀ i, t.n ≤ i → t.cd i = fun _ => 0
theorem TOk.zero (s : Int) : TOk (tr0 s) s 0 := ⟨POk.zero s, fun i => nf_zero, fun i _ => rfl⟩
theorem TOk.mono {t : Tr} {s : Int} {K K' : Nat} (h : TOk t s K) (hk : K ≤ K') : TOk t s K' := by
  have hp := h.p
  exact ⟨⟨hp.s, hp.cb, hp.cd, hp.rv, by have := hp.n; omega, by have := hp.m; omega, hp.cb0, hp.rv0⟩, h.nf, h.z⟩
theorem TOk.addC {t : Tr} {s : Int} {K u k : Nat} {L : Nat → Nat → Int} {tb : Nat → Int} {te : Nat → Bool} (h : TOk t s K) (hL : ∀ i, Byt (L i)) (hN : ∀ i, NfB (L i)) (htb : Wds tb) : TOk (addC t L u k tb te) s (K + 1 + k) :=
  ⟨h.p.addC hL htb, addC_nf h.nf hN, addC_z⟩
theorem TOk.addR {t : Tr} {s : Int} {K k : Nat} {m : Nat → Int} (h : TOk t s K) (hk : k ≤ 60) (hm : Wds m) : TOk (addR t k m) s (K + 1) :=
  ⟨h.p.addR hk hm, h.nf, h.z⟩
theorem tel_ok {L : Nat → Nat → Int} (hL : ∀ i, Byt (L i)) (hN : ∀ i, NfB (L i)) {N : Nat} {s : Int} : ∀ (f u : Nat) (t : Tr), TOk t s u → u ≤ N → TOk (tel L N f u t) s N
  | 0, u, t, h, hu => h.mono hu
  | f + 1, u, t, h, hu => by
    rw [tel]
    split
    · next h1 =>
      split
      · next h2 =>
        have h30 := desc30 h2
        split
        · exact tel_ok hL hN f _ _ (h.addC hL hN (fun i => wd_wds (hL u) (4 + 2 * i))) (by omega)
        · exact (h.addC hL hN (fun i => wd_wds (hL u) (4 + 2 * i))).mono (by omega)
      · split
        · next h3 => exact tel_ok hL hN f _ _ (h.addR (rev60 h3).1 (fun i => wd_wds (hL u) (4 + i))) (by omega)
        · exact tel_ok hL hN f _ _ (h.mono (by omega)) (by omega)
    · exact h.mono hu
theorem desc_kind {z : Nat → Int} (h : kindOf z ≠ 1) : descRd z = false := by
  cases e : descRd z with
  | false => rfl
  | true => exact absurd (desc30 e).2.2 h
theorem rev_kind {z : Nat → Int} (h : kindOf z ≠ 3) : revRd z = false := by
  cases e : revRd z with
  | false => rfl
  | true => exact absurd (rev60 e).2 h
/-- what is parsed is told by the blocks ahead of the commit block -/
theorem tel_prs {L : Nat → Nat → Int} {N : Nat} {s : Int} : ∀ (f n : Nat) (t t' : Tr) (u : Nat), prs L N s f n t = some (t', u) → n < u ∧ ∀ g, u - 1 - n ≤ g → tel L (u - 1) g n t = t'
  | 0, n, t, t', u, he => by cases he
  | f + 1, n, t, t', u, he => by
    rw [prs] at he
    by_cases h1 : n < N
    · rw [if_pos h1] at he
      by_cases h2 : seqOf (L n) = s
      · rw [if_pos h2] at he
        by_cases h3 : kindOf (L n) = 1
        · rw [if_pos h3] at he
          by_cases h4 : descRd (L n) = true ∧ rowsN (L n) ≤ N - (n + 1)
          · rw [if_pos h4] at he
            obtain ⟨i1, i2⟩ := tel_prs f _ _ t' u he
            refine ⟨by omega, fun g hg => ?_⟩
            obtain ⟨g', rfl⟩ : ∃ g', g = g' + 1 := ⟨g - 1, by omega⟩
            rw [tel, if_pos (by omega), if_pos h4.1, if_pos (by omega)]
            exact i2 g' (by omega)
          · rw [if_neg h4] at he; cases he
        · rw [if_neg h3] at he
          by_cases h4 : kindOf (L n) = 3
          · rw [if_pos h4] at he
            by_cases h5 : revRd (L n) = true
            · rw [if_pos h5] at he
              obtain ⟨i1, i2⟩ := tel_prs f _ _ t' u he
              refine ⟨by omega, fun g hg => ?_⟩
              obtain ⟨g', rfl⟩ : ∃ g', g = g' + 1 := ⟨g - 1, by omega⟩
              rw [tel, if_pos (by omega), if_neg (by rw [desc_kind h3]; decide), if_pos h5]
              exact i2 g' (by omega)
            · rw [if_neg h5] at he; cases he
          · rw [if_neg h4] at he
            by_cases h5 : kindOf (L n) = 2
            · rw [if_pos h5] at he
              injection he with he
              injection he with e1 e2
              subst e1 e2
              refine ⟨by omega, fun g hg => ?_⟩
              cases g with
              | zero => rfl
              | succ g => rw [tel, if_neg (by omega)]
            · rw [if_neg h5] at he; cases he
      · rw [if_neg h2] at he; cases he
    · rw [if_neg h1] at he; cases he
/-- does a transaction end here? -/
def endB (L : Nat → Nat → Int) (s : Int) (a : Nat) : Bool := commitRd (L a) && (seqOf (L a) == s && wd (L a) 3 == (a : Int))
def okAt (L : Nat → Nat → Int) (s : Int) (a : Nat) : Prop := endB L s a = true ∧ packE (tel L a a 0 (tr0 s)) = 0 ∧ sameB (pkB (tel L a a 0 (tr0 s))) L ((tel L a a 0 (tr0 s)).c + 1) (a + 1) = true
theorem ok_unp {L : Nat → Nat → Int} (hL : ∀ i, Byt (L i)) (hN : ∀ i, NfB (L i)) {N : Nat} {s : Int} (hs : 0 ≤ s ∧ s < 4294967296) {a : Nat} (ha : a < min N 255) (h : okAt L s a) : unp L N s = some (tel L a a 0 (tr0 s), a + 1) := by
  obtain ⟨_, hE, hS⟩ := h
  have hT := tel_ok hL hN (N := a) (s := s) a 0 (tr0 s) (TOk.zero s) (Nat.zero_le _)
  generalize tel L a a 0 (tr0 s) = t at *
  unfold sameB at hS
  rw [Bool.and_eq_true, beq_iff_eq] at hS
  obtain ⟨hc, hS⟩ := hS
  have hB := (eqBs_iff _ _ _).1 hS
  have := unp_pack (L := L) (N := N) (hT.p.ok hs (by omega)) hT.z hE (by omega) (fun i hi => nf_eq (hN i) (nf_pk hT.nf i) fun j hj => (hB i (by omega) j hj).symm)
  rw [hT.p.s] at this
  rw [this, hc]
theorem unp_ok {L : Nat → Nat → Int} (hL : ∀ i, Byt (L i)) (hN : ∀ i, NfB (L i)) {N : Nat} {s : Int} (hs : 0 ≤ s ∧ s < 4294967296) {t : Tr} {u : Nat} (h : unp L N s = some (t, u)) : u - 1 < min N 255 ∧ okAt L s (u - 1) := by
  have hU := unp_some hL hs h
  have hue := hU.ue
  have hc1 := hU.c
  have key : tel L (u - 1) (u - 1) 0 (tr0 s) = t ∧ u ≤ min N 255 := by
    unfold unp at h
    cases hp : prs L (min N 255) s (min N 255) 0 (tr0 s) with
    | none => rw [hp] at h; cases h
    | some x =>
      obtain ⟨t', u'⟩ := x
      rw [hp] at h
      by_cases hc : packE t' = 0 ∧ sameB (pkB t') L (t'.c + 1) u' = true
      · simp only [if_pos hc] at h
        injection h with h
        injection h with e1 e2
        subst e1 e2
        obtain ⟨_, h2, _⟩ := prs_pok hL _ _ _ _ _ (POk.zero s) (Nat.zero_le _) hp
        exact ⟨(tel_prs _ _ _ _ _ hp).2 _ (by omega), h2⟩
      · simp only [if_neg hc] at h
        cases h
  obtain ⟨hk, hu⟩ := key
  refine ⟨by omega, ?_, by rw [hk]; exact hU.e, by rw [hk, show u - 1 + 1 = t.c + 1 by omega, ← hue]; have := hU.same; rwa [hue] at this ⊢⟩
  -- the commit block
  obtain ⟨hmay, hsz⟩ := packE_zero hU.e
  have hok := commitOk_c hmay hsz
  obtain ⟨h1, h2, h3⟩ := commit_law t.s t.c (crcB (pk0 t) t.c) (crcB_bd _ _) hok
  have hz : ∀ j, j < 256 → L (u - 1) j = commitZ t.s t.c (crcB (pk0 t) t.c) j := fun j hj => by
    rw [hU.ll (u - 1) (by omega) j hj]
    unfold pkB; rw [if_neg (by omega)]
  have hz' : L (u - 1) = commitZ t.s t.c (crcB (pk0 t) t.c) := nf_eq (hN _) (nf_commit _ _ _) hz
  have hr : commitRd (commitZ t.s t.c (crcB (pk0 t) t.c)) = true := by
    cases e : commitRd (commitZ t.s t.c (crcB (pk0 t) t.c)) with
    | true => rfl
    | false => unfold commitV at h1; rw [e] at h1; simp at h1
  have h4 : wd (commitZ t.s t.c (crcB (pk0 t) t.c)) 3 = t.c := by
    unfold commitV at h1; rw [hr] at h1; simp at h1; exact h1.2.1
  unfold endB
  rw [hz', hr, h3, h4, hU.sq, beq_self_eq_true, show u - 1 = t.c by omega, beq_self_eq_true]
  rfl
end Go.Proofs.YthkalmdpbhjafaaDoor

/- The contract of quernref09.Unescape. -/
namespace Go.Proofs.YthkalmdpbhjafaaDoor
open Go.RowKit
set_option linter.unusedVariables false

theorem rputZ32 (g : Nat) {T : TypeId} (z : Nat → Int) (hz : Byt z) (k : Nat) (K v : Int) (hK : K = (k : Int)) (hk : k + 4 ≤ 256) (hv : 0 ≤ v) (hv2 : v < 4294967296) (w : World) (hB : Blk w g T 256 z) :
    Calls Tryd.prog 73 #[.slice (some ⟨g, 0, none⟩) 256 256, .int .i64 K, .int .u32 v] w fun e w' => e = .returned (.bool true) ∧ Blk w' g T 256 (over z k 4 (byteOf v)) ∧ Only g w w' := by
  refine (rput32_yes g 0 256 256 K v z w (by omega) (by omega) (by omega) hv hv2 hB.seg hz (hB.soft 0 256)).mono fun e w' ⟨he, hp⟩ => ⟨he, ?_, hp.only⟩
  rw [show 0 + K.toNat = k by omega] at hp
  exact hB.puts hp

set_option maxRecDepth 100000 in
set_option maxHeartbeats 400000 in
theorem rUnescape_any (z : Nat → Int) (hz : Byt z) (w : World) :
    Calls Tryd.prog 62 #[bval z] w fun e w' => e = .returned (bval (unescZ z)) ∧ Below w.heap.size w w' := by
  have hal := zero_block
  have hB : Blk ((w.alloc (.cells (Ks .u8 256 z).toArray 40)).alloc (.cells (Ks .u8 256 (fun _ => 0)).toArray 40)) w.heap.size 40 256 z := (Blk.new _ _ _ _).alloc _
  have hR : Blk ((w.alloc (.cells (Ks .u8 256 z).toArray 40)).alloc (.cells (Ks .u8 256 (fun _ => 0)).toArray 40)) (w.heap.size + 1) 40 256 (fun _ => 0) := by
    have := Blk.new (w.alloc (.cells (Ks .u8 256 z).toArray 40)) 40 256 (fun _ => 0)
    simp only [World.size_alloc] at this
    exact this
  have hL : Below w.heap.size w ((w.alloc (.cells (Ks .u8 256 z).toArray 40)).alloc (.cells (Ks .u8 256 (fun _ => 0)).toArray 40)) := ((Below.refl _ _).alloc (Nat.le_refl _) _).alloc (by simp) _
  have HB := Lib.hid hB
  have HR := Lib.hid hR
  have HL := Lib.hid hL
  clear hB hR hL
  have hsa := fun W => run_sliceBlkAll w.heap.size 0 W
  go_enter Tryd.func62, Tryd.ntmps62
  go_wp2_with fail
  refine (rputZ32 w.heap.size z hz 0 0 1280199249 rfl (by omega) (by decide) (by decide) _ HB.out).mono ?_
  rintro e w2 ⟨rfl, hB2, ho2⟩
  have hR2 := HR.out.only ho2 (by omega)
  have hL2 : Below w.heap.size w w2 := HL.out.trans (ho2.below (Nat.le_refl _))
  clear HB HR HL ho2 hsa hal
  go_wp2_with (first | (refine wp_loadBlk rfl (.tmp 1) rfl w.heap.size (over z 0 4 (byteOf 1280199249)) rfl hB2 ?_) | (refine wp_storeBlk rfl (.tmp 2) (.tmp 5) rfl (w.heap.size + 1) (over z 0 4 (byteOf 1280199249)) _ rfl rfl hR2 ?_))
  intro w3 hR3 ho3
  go_wp2_with fail
  exact bodyPost_ret (results_blk rfl _ _ (w.heap.size + 1) _ rfl hR3) rfl ⟨rfl, hL2.trans (ho3.below (by omega))⟩
end Go.Proofs.YthkalmdpbhjafaaDoor

/- quernref15.tells. -/
namespace Go.Proofs.YthkalmdpbhjafaaDoor
open Go.RowKit
set_option linter.unusedVariables false

theorem build_trans1 (s : Int) (w : World) : (Instr.build 28 #[(0, .int .u32 s)]).run Tryd.prog w = .ok (.agg (tcells s none 0 0 none 0 0)) w := by kernel_rfl
/-- while a copy is laid behind -/
structure TlC (w : World) (la : Option Addr) (N : Nat) (L : Nat → Nat → Int) (n m : Nat) (s : Int) (cb : Nat → Int) (cd : Nat → Nat → Int) (rv : Nat → Int) (ca : Option Addr) (cc : Nat) (ra : Option Addr) (rc : Nat) (cb' : Nat → Int) (cd' : Nat → Nat → Int) (bt g0 k cap0 : Nat) (TB : Nat → Int) (TE : Nat → Bool) (px : Nat) (x : Int) (y : Nat → Int) (st : Mv.St) (W : World) : Prop where
  b : At W w.heap.size 28 (tcells s ca n cc ra m rc)
  r : RMine W (w.heap.size + 1) 3 1 (.slice ra m rc) m (inF rv)
  l : RRow W la 256 N (bkF L)
  tg : W.ownsRow bt 67 2 (.slice (some ⟨g0, 0, none⟩) k cap0) k (Tc TB TE k)
  xb : Blk W px 40 256 y
  bel : Below w.heap.size w W
  s0 : st.n < 2 → RMine W (w.heap.size + 1) 61 257 (.slice ca n cc) n (cpF cb cd)
  s1 : st.n = 1 → ∀ q, st.v = .slice (some ⟨q, 0, none⟩) 1 1 → ∀ j u, (cpc x y)[j]? = some u → W.cell? ((⟨q, 0, none⟩ : Addr).add j) = some u
  s2 : st.n = 2 → RMine W (w.heap.size + 1) 61 257 st.v (n + 1) (cpF cb' cd')
/-- while a number is laid behind -/
structure TlN (w : World) (la : Option Addr) (N : Nat) (L : Nat → Nat → Int) (n m : Nat) (s : Int) (cb : Nat → Int) (cd : Nat → Nat → Int) (rv : Nat → Int) (ca : Option Addr) (cc : Nat) (ra : Option Addr) (rc : Nat) (rv' : Nat → Int) (bt g0 k cap0 : Nat) (M : Nat → Int) (x : Int) (st : Mv.St) (W : World) : Prop where
  b : At W w.heap.size 28 (tcells s ca n cc ra m rc)
  c : RMine W (w.heap.size + 1) 61 257 (.slice ca n cc) n (cpF cb cd)
  l : RRow W la 256 N (bkF L)
  tg : W.ownsRow bt 22 1 (.slice (some ⟨g0, 0, none⟩) k cap0) k (Ks .u32 k M)
  bel : Below w.heap.size w W
  s0 : st.n < 2 → RMine W (w.heap.size + 1) 3 1 (.slice ra m rc) m (inF rv)
  s1 : st.n = 1 → ∀ q, st.v = .slice (some ⟨q, 0, none⟩) 1 1 → ∀ j u, ([.int .i64 x] : List Value)[j]? = some u → W.cell? ((⟨q, 0, none⟩ : Addr).add j) = some u
  s2 : st.n = 2 → RMine W (w.heap.size + 1) 3 1 st.v (m + 1) (inF rv')
theorem results_t4 {fn : Func} (h : fn.results = #[.cell 4 28]) (tmps : Array Value) (W : World) (g : Nat) {s : Int} {ca : Option Addr} {n cc : Nat} {ra : Option Addr} {m rc : Nat}
    (hp : tmps.getD 4 undef = .pointer (some ⟨g, 0, none⟩)) (hg : At W g 28 (tcells s ca n cc ra m rc)) : (results fn tmps).run Tryd.prog W = .ok (tval s ca n cc ra m rc) W := by
  have hp' : tmps[4]?.getD undef = .pointer (some ⟨g, 0, none⟩) := by simpa using hp
  simp [results, h, hp', asAddr, run_loadVar_row W g 28 28 _ (0, 0) _ hg Tryd.underlying28 rfl (info_trans s ca n cc ra m rc)]
theorem PrS.res {w : World} {v : Array Value} {la : Option Addr} {N : Nat} {L : Nat → Nat → Int} {n m : Nat} {s : Int} {cb : Nat → Int} {cd : Nat → Nat → Int} {rv : Nat → Int} {ca : Option Addr} {cc : Nat} {ra : Option Addr} {rc : Nat} {W : World}
    (h : PrS (w.alloc (.cells v 28)) la N L n m s cb cd rv ca cc ra rc W) : At W w.heap.size 28 v ∧ Below w.heap.size w W := by
  have h1 := h.bel.block w.heap.size (by simp)
  exact ⟨h1.trans (At.new w _ _), ((Below.refl _ _).alloc (Nat.le_refl _) _).trans (h.bel.mono (by simp))⟩
theorem PrS.res' {w w0 : World} {v : Array Value} (hw : w0 = w.alloc (.cells v 28)) {la : Option Addr} {N : Nat} {L : Nat → Nat → Int} {n m : Nat} {s : Int} {cb : Nat → Int} {cd : Nat → Nat → Int} {rv : Nat → Int} {ca : Option Addr} {cc : Nat} {ra : Option Addr} {rc : Nat} {W : World}
    (h : PrS w0 la N L n m s cb cd rv ca cc ra rc W) : At W w.heap.size 28 v ∧ Below w.heap.size w W := by subst hw; exact h.res

set_option maxRecDepth 100000 in
set_option maxHeartbeats 16000000 in
theorem rTells_any (la : Option Addr) (N lcap : Nat) (L : Nat → Nat → Int) (hL : ∀ i, Byt (L i)) (hNf : ∀ i, NfB (L i)) (s : Int) (hs : 0 ≤ s ∧ s < 4294967296) (hN : N ≤ 255) (w : World) (hl : RRow w la 256 N (bkF L)) (hla : ∀ b off, la = some ⟨b, off, none⟩ → b < w.heap.size) :
    Calls Tryd.prog 40 #[.slice la N lcap, .int .u32 s] w fun e w' => ∃ ca cc ra rc, e = .returned (tval s ca (tel L N N 0 (tr0 s)).n cc ra (tel L N N 0 (tr0 s)).m rc) ∧
      RMine w' (w.heap.size + 1) 61 257 (.slice ca (tel L N N 0 (tr0 s)).n cc) (tel L N N 0 (tr0 s)).n (cpF (tel L N N 0 (tr0 s)).cb (tel L N N 0 (tr0 s)).cd) ∧ RMine w' (w.heap.size + 1) 3 1 (.slice ra (tel L N N 0 (tr0 s)).m rc) (tel L N N 0 (tr0 s)).m (inF (tel L N N 0 (tr0 s)).rv) ∧ Below w.heap.size w w' := by
  have hal := zero_block
  have halt := zero_trans
  have hbt := build_trans1 s
  obtain ⟨w0, hw0⟩ : ∃ w0, w0 = w.alloc (.cells (tcells 0 none 0 0 none 0 0) 28) := ⟨_, rfl⟩
  have hsz0 : w0.heap.size = w.heap.size + 1 := by rw [hw0]; simp
  have HLA : Hid (∀ b off, la = some ⟨b, off, none⟩ → b < w0.heap.size) := fun b off e => by have := hla b off e; omega
  have hP0 := At.new w0 28 (tcells 0 none 0 0 none 0 0)
  have HR0 : Hid (RRow (w0.alloc (.cells (tcells 0 none 0 0 none 0 0) 28)) la 256 N (bkF L)) := by rw [hw0]; exact (hl.alloc _).alloc _
  obtain ⟨R, hR⟩ : ∃ R, R = tel L N N 0 (tr0 s) := ⟨_, rfl⟩
  rw [← hR]
  have HRR : Hid (tel L N (N - 0) 0 (tr0 s) = R) := hR.symm
  have HW0 := Lib.hid hw0
  rw [hw0] at hP0
  simp only [World.size_alloc] at hP0
  have HSZ0 := Lib.hid hsz0
  clear hl hla hR hw0 hsz0
  go_enter Tryd.func40, Tryd.ntmps40
  go_wp2_with (first | (refine wp_storeAt rfl 28 (.tmp 5) (.tmp 17) rfl (w.heap.size + 1) (tcells s none 0 0 none 0 0) _ rfl rfl hP0 (info_trans 0 none 0 0 none 0 0) rfl (by kernel_rfl) ?_))
  intro w2 hP2 ho2
  have st0 : Hid (PrS w0 la N L 0 0 s (tr0 s).cb (tr0 s).cd (tr0 s).rv none 0 none 0 w2) := by
    have hlt := HR0.out
    rw [HW0.out] at hlt ⊢
    refine ⟨by simpa using hP2, RMine.nil _ _ _ _ _, RMine.nil _ _ _ _ _, ?_, ((Below.refl _ _).alloc (Nat.le_refl _) _).trans (ho2.below (by simp))⟩
    exact RRow.only hlt ho2 (fun b off e => by have := HLA.out b off e; have := HSZ0.out; omega)
  rw [← HSZ0.out]
  clear hP0 hP2 ho2 HR0 hbt
  go_wp2_with fail
  go_loopw [6, 7, 8, 9, 10, 11, 12, 13, 14, 15] (fun u _ _ _ _ _ _ _ _ _ wr => ∃ (n : Nat) (t : Tr) (ca : Option Addr) (cc : Nat) (ra : Option Addr) (rc : Nat), u = .int .i64 (n : Int) ∧ n ≤ N ∧ TOk t s n ∧ Hid (tel L N (N - n) n t = R) ∧ PrS w0 la N L t.n t.m s t.cb t.cd t.rv ca cc ra rc wr) (fun u _ _ _ _ _ _ _ _ _ _ => N - (intOf u).toNat)
  case atStart => exact ⟨0, tr0 s, none, 0, none, 0, rfl, Nat.zero_le _, TOk.zero s, HRR.out, st0.out⟩
  case round =>
    clear st0 HRR
    obtain ⟨n, t, ca, cc, ra, rc, rfl, hnN, hT, HP, st⟩ := hrel
    have htn : t.n ≤ n := hT.p.n
    have htm : t.m ≤ 60 * n := hT.p.m
    have HT := Lib.hid hT
    clear hT
    by_cases hu : n < N
    rotate_left
    · have HRt : Hid (R = t) := by show _ = _; rw [← HP.out, tel_end L N n t hu]
      have hb5 := st.b
      obtain ⟨hr4, hbe⟩ := st.res' HW0.out
      have HCZ := Lib.hid st.c
      have HRZ := Lib.hid st.r
      have HBZ := Lib.hid hbe
      clear st hbe
      go_wp2_with (first | (refine wp_loadAtG rfl 28 (.tmp 5) rfl _ _ _ rfl hb5 Tryd.underlying28 rfl (info_trans _ _ _ _ _ _ _) ?_) | (refine wp_storeAt rfl 28 (.tmp 4) (.tmp 99) rfl w.heap.size (tcells s ca t.n cc ra t.m rc) _ rfl rfl hr4 (info_trans 0 none 0 0 none 0 0) rfl (by kernel_rfl) ?_))
      intro wz hBz hoz
      have HCZ2 := Lib.hid (own_only HCZ.out hoz (fun e => by have := (World.ownsRow.lt HCZ.out _ e).1; have := HSZ0.out; omega))
      have HRZ2 := Lib.hid (own_only HRZ.out hoz (fun e => by have := (World.ownsRow.lt HRZ.out _ e).1; have := HSZ0.out; omega))
      have HLZ := Lib.hid (HBZ.out.trans (hoz.below (Nat.le_refl _)))
      clear hoz hb5 hr4 HCZ HRZ
      go_wp2_with fail
      refine bodyPost_ret (results_t4 rfl _ _ _ rfl hBz) rfl ?_
      rw [HRt.out]
      exact ⟨ca, cc, ra, rc, rfl, RMine.low HCZ2.out (by have := HSZ0.out; omega), RMine.low HRZ2.out (by have := HSZ0.out; omega), HLZ.out⟩
    · have hu' : (n : Int) < (N : Int) := by omega
      have n0 : (0 : Int) ≤ (n : Int) := by omega
      obtain ⟨b, off, rfl⟩ := st.l.some_of (by omega)
      have HRG : Hid (∀ W, RRow W (some ⟨b, off, none⟩) 256 N (bkF L) → ∀ i, i < N → W.rangeAt b (off + i * 256) (bkF L i)) := fun W h i hi => by
        rcases h with h | ⟨b', off', e, h⟩
        · omega
        · injection e with e; injection e with e1 e2; subst e1 e2; exact h.range i hi
      have hrg := HRG.out wr st.l n hu
      have HSTEP := Lib.hid (tel_step L N n t hu)
      go_wp2_with (first | (refine wp_loadMid rfl 40 (.tmp 27) rfl b (off + n * 256) (bkF L n) _ rfl hrg Tryd.underlying40 rfl (by rw [bkF_len]; exact info_block) ?_))
      refine (rReadDesc_any (L n) (hL n) wr).mono ?_
      rintro e w3 ⟨hb3, hD⟩
      have HB00 := Lib.hid st.b.lt
      have st3 := st.below hb3
      have hrg3 := HRG.out w3 st3.l n hu
      have HD := Lib.hid hD
      have HSZ3 := Lib.hid hb3.size
      have HB03 := Lib.hid st3.b.lt
      have key : ∃ (a : Option Addr) (kk cp : Nat) (E sq : Int), e = .returned (.tuple #[.int .u32 sq, .slice a kk cp, .int .i64 E]) := by
        rcases hD with ⟨_, rfl⟩ | ⟨_, g, cap, rfl, _⟩
        · exact ⟨_, _, _, _, _, rfl⟩
        · exact ⟨_, _, _, _, _, rfl⟩
      clear hD st hrg hb3
      rcases HD.out with ⟨hdr, rfl⟩ | ⟨hdr, g0, cap0, rfl, how⟩
      all_goals
        clear key HD
        go_wp2_with (first | (refine wp_loadMid rfl 40 (.tmp 36) rfl b (off + n * 256) (bkF L n) _ rfl hrg3 Tryd.underlying40 rfl (by rw [bkF_len]; exact info_block) ?_))
        refine (rReadRevoke_any (L n) (hL n) w3).mono ?_
        rintro e w4 ⟨hb4, hV⟩
      -- no descriptor
      · have st4 := st3.below hb4
        clear st3 hrg3 hb4
        rcases hV with ⟨hvr, rfl⟩ | ⟨hvr, g1, cap1, rfl, hov⟩
        · have HP1 : Hid (tel L N (N - (n + 1)) (n + 1) t = R) := by show _ = _; rw [← HP.out, HSTEP.out, if_neg (by rw [hdr]; decide), if_neg (by rw [hvr]; decide)]
          have ST := Lib.hid st4
          have HT1 : Hid (TOk t s (n + 1)) := HT.out.mono (by omega)
          clear st4 hdr hvr
          go_wp2_with fail
          go_roundw
          case rel => first | exact ⟨n + 1, t, ca, cc, ra, rc, by first | rfl | go_num, by omega, HT1.out, HP1, ST.out⟩ | ((repeat apply Exists.intro); exact ⟨⟨n + 1, t, ca, cc, ra, rc, by first | rfl | go_num, by omega, HT1.out, HP1, ST.out⟩, rfl⟩)
          case measure => simp [intOf]; omega
        · have h60 := rev60 hvr
          have hmb : Wds (revM (L n)) := fun i => wd_wds (hL n) (4 + i)
          obtain ⟨k, hk⟩ : ∃ k, k = rowsN (L n) := ⟨_, rfl⟩
          obtain ⟨M, hM⟩ : ∃ M, M = revM (L n) := ⟨_, rfl⟩
          have HP1 : Hid (tel L N (N - (n + 1)) (n + 1) (addR t k M) = R) := by show _ = _; rw [← HP.out, HSTEP.out, if_neg (by rw [hdr]; decide), if_pos hvr, hk, hM]
          rw [← hk, ← hM] at hov
          rw [← hk] at h60
          rw [← hM] at hmb
          rw [← hk]
          obtain ⟨hk60, _⟩ := h60
          have HT1 : Hid (TOk (addR t k M) s (n + 1)) := HT.out.addR hk60 hmb
          have ST := Lib.hid st4
          have HOW := Lib.hid hov
          have hw34 : w0.heap.size < w3.heap.size := by have h1 := st4.b.lt; have h2 := HSZ3.out; have := HB03.out; omega
          clear st4 hov hdr hvr hk hM HP HSTEP
          go_wp2_with fail
          go_loopw [15] (fun c wr => ∃ (j : Nat) (ra : Option Addr) (rc : Nat), c = .int .i64 (j : Int) ∧ j ≤ k ∧ PrS w0 (some ⟨b, off, none⟩) N L t.n (t.m + j) s t.cb t.cd (addR t j M).rv ca cc ra rc wr ∧ wr.ownsRow w3.heap.size 22 1 (.slice (some ⟨g1, 0, none⟩) k cap1) k (Ks .u32 k M)) (fun c _ => k - (intOf c).toNat)
          case atStart => exact ⟨0, ra, rc, rfl, Nat.zero_le _, addR_zero ST.out, HOW.out⟩
          case round =>
            clear ST HOW
            obtain ⟨j, ra, rc, rfl, hj, st, how⟩ := hrel
            by_cases hlt : j < k
            · have hlt' : (j : Int) < (k : Int) := by omega
              have j0 : (0 : Int) ≤ (j : Int) := by omega
              have hw : IntKind.i64.wrap (M j) = M j := IntWalk.i64_in _ (by have := hmb j; omega)
              obtain ⟨i0, hi0, hz0, hz1, hz2⟩ := info_intP
              go_wp2_with fail
              refine wp_region_mb (TlN w0 (some ⟨b, off, none⟩) N L t.n (t.m + j) s t.cb t.cd (addR t j M).rv ca cc ra rc (addR t (j + 1) M).rv w3.heap.size g1 k cap1 M (M j)) ⟨0, undef⟩ 10 (by kernel_rfl) (by kernel_rfl) (by kernel_rfl) (by kernel_rfl) (by kernel_rfl) (by kernel_rfl) (by decide) ⟨st.b, st.c, st.l, how, st.bel.drew, fun _ => st.r, (fun h => by cases h), (fun h => by cases h)⟩ ?_
              clear st how
              intro hne
              have hc2 : ∀ y : InW (fun W => ∃ t', TlN w0 (some ⟨b, off, none⟩) N L t.n (t.m + j) s t.cb t.cd (addR t j M).rv ca cc ra rc (addR t (j + 1) M).rv w3.heap.size g1 k cap1 M (M j) t' W), y.W.cell? ⟨w0.heap.size, 2, none⟩ = some (.slice ra (t.m + j) rc) := fun y => by obtain ⟨_, h⟩ := y.h; exact h.b.cell (i := 2) rfl
              have hc0 : ∀ y : InW (fun W => ∃ t', TlN w0 (some ⟨b, off, none⟩) N L t.n (t.m + j) s t.cb t.cd (addR t j M).rv ca cc ra rc (addR t (j + 1) M).rv w3.heap.size g1 k cap1 M (M j) t' W), y.W.cell? ⟨g1, j, none⟩ = some (.int .u32 (M j)) := fun y => by
                obtain ⟨_, h⟩ := y.h
                rcases own_nums h.tg with h | ⟨b', o', he, hs'⟩
                · omega
                · injection he with he; injection he with h1 h2; subst h1 h2; have := hs' j hlt; rwa [Nat.zero_add] at this
              (refine Mv.lin_take 7 (by kernel_rfl) ?_; simp only [List.take_succ_cons, List.take_zero, List.drop_succ_cons, List.drop_zero])
              first | go_big_quiet_skip | (go_big_quiet_want; go_big_quiet_op; go_big_quiet_on)
              first | go_big_quiet_skip | (go_big_quiet_want; go_big_quiet_op; go_big_quiet_on)
              first | go_big_quiet_skip | (go_big_quiet_want; go_big_quiet_op; go_big_quiet_on)
              first | go_big_quiet_skip | (go_big_quiet_want; go_big_quiet_op; go_big_quiet_on)
              first | go_big_quiet_skip | (go_big_quiet_want; go_big_quiet_op; go_big_quiet_on)
              first | go_big_quiet_skip | (go_big_quiet_want; go_big_quiet_op; go_big_quiet_on)
              first | go_big_quiet_skip | (go_big_quiet_want; go_big_quiet_op; go_big_quiet_on)
              refine wpQuiet_nil ?_
              refine Mv.lin_build1 rfl _ _ _ _ rfl fun W hW => ⟨_, _, ⟨1, .slice (some ⟨W.heap.size, 0, none⟩) 1 1⟩, run_int1 (M j) W, ?_, ?_⟩
              · refine ⟨hW.b.alloc _, RMine.alloc hW.c _, hW.l.alloc _, World.ownsRow.alloc hW.tg _, hW.bel.alloc hW.bel.size _, fun _ => RMine.alloc (hW.s0 (by decide)) _, ?_, (fun h => by cases h)⟩
                rintro _ q hq
                injection hq with h1 h2 h3; injection h1 with h1; injection h1 with h1; subst h1
                exact cells_news W [.int .i64 (M j)] _
              generalize W.heap.size = gq at *
              clear hW
              refine Mv.frame (by simp only [Act.put, List.setIfInBounds_toArray, List.set_cons_succ, List.set_cons_zero]; exact rfl) ?_
              refine Mv.lin_append rfl _ _ _ rfl fun W hW => ?_
              have hown := hW.s0 (by show (1 : Nat) < 2; decide)
              have hWb := hW.b.lt
              obtain ⟨v', w', hr, ho, hg, _⟩ := run_append_own (P := Tryd.prog) W (w0.heap.size + 1) 24 24 3 i0 (.int .i64 0) 1 8 Tryd.underlying24 hi0 hz0 hz1 hz2 rfl (by decide) (.slice ra (t.m + j) rc) (t.m + j) (Cs (inF (addR t j M).rv) (t.m + j)) hown ⟨gq, 0, none⟩ 1 1 [.int .i64 (M j)] rfl
                (hW.s1 rfl gq rfl) (fun u hu => by rw [List.mem_singleton.1 hu]; rfl) (by unfold maxLen; omega) (by omega) (by omega)
              refine ⟨v', w', ⟨2, v'⟩, hr, ?_, ?_⟩
              · have hob : ∀ q, (Value.slice ra (t.m + j) rc).ownBlock = some q → w0.heap.size + 1 ≤ q := fun q hq => (World.ownsRow.lt hown q hq).1
                refine ⟨AtGrown hW.b hg (fun e => by have := hob _ e; omega), World.ownsRow.kept hW.c hg (own_block_ne hW.c hown (by decide)), RRowG hW.l hg (fun b' off' e h0 => ⟨by have := HLA.out b' off' e; omega, fun e2 => by have := hob _ e2; have := HLA.out b' off' e; omega⟩), World.ownsRow.kept hW.tg hg (own_block_ne hW.tg hown (by decide)), hW.bel.grown hg hW.bel.size (fun q e => by have := hob q e; omega), (fun h => absurd h (by show ¬ (2 : Nat) < 2; decide)), (fun h => by cases h), fun _ => ?_⟩
                refine RMine.snoc (f := inF (addR t (j + 1) M).rv) ?_ (by show _ = [Value.int .i64 ((addR t (j + 1) M).rv (t.m + j))]; rw [addR_at])
                rw [Cs_congr (f := inF (addR t (j + 1) M).rv) (g := inF (addR t j M).rv) (n := t.m + j) (fun i hi => by unfold inF; rw [addR_low t j M hi])]
                exact ho
              clear hr ho hg hW hown hWb
              refine Mv.frame (by simp only [Act.put, List.setIfInBounds_toArray, List.set_cons_succ, List.set_cons_zero]; exact rfl) ?_
              (refine Mv.lin_take 1 (by kernel_rfl) ?_; simp only [List.take_succ_cons, List.take_zero, List.drop_succ_cons, List.drop_zero])
              first | go_big_quiet_skip | (go_big_quiet_want; go_big_quiet_op; go_big_quiet_on)
              refine wpQuiet_nil ?_
              refine Mv.wpLin_nil ?_
              intro w5 h5
              clear hc0 hc2 hne
              have hv5 := h5.s2 rfl
              obtain ⟨ra5, rc5, rfl⟩ : ∃ a c, v' = .slice a (t.m + j + 1) c := RMine.form hv5
              have c5 : w5.cell? ⟨w0.heap.size, 2, none⟩ = some (.slice ra (t.m + j) rc) := h5.b.cell (i := 2) rfl
              have f5 : w5.frozen? ⟨w0.heap.size, 2, none⟩ = false := soft_of_heap h5.b 2
              have ho5 := Only.setCell w5 ⟨w0.heap.size, 2, none⟩ (.slice ra5 (t.m + j + 1) rc5)
              have st6 : Hid (PrS w0 (some ⟨b, off, none⟩) N L t.n (t.m + (j + 1)) s t.cb t.cd (addR t (j + 1) M).rv ca cc ra5 rc5 (w5.setCell ⟨w0.heap.size, 2, none⟩ (.slice ra5 (t.m + j + 1) rc5))) :=
                ⟨h5.b.setF 2 _, own_only h5.c ho5 (at_own_ne h5.b h5.c (by decide)), own_only hv5 ho5 (at_own_ne h5.b hv5 (by decide)), RRowO h5.l ho5 (fun b' off' e h0 => by have := HLA.out b' off' e; show b' ≠ w0.heap.size; omega), h5.bel.trans (ho5.below (Nat.le_refl _))⟩
              have how6 := Lib.hid (own_only h5.tg ho5 (fun e => by have := (World.ownsRow.lt h5.tg _ e).1; change _ ≤ w0.heap.size at this; omega))
              clear h5 hv5 ho5
              go_wp2_with fail
              go_roundw
              case rel => first | exact ⟨j + 1, ra5, rc5, by first | rfl | go_num, by omega, st6.out, how6.out⟩ | ((repeat apply Exists.intro); exact ⟨⟨j + 1, ra5, rc5, by first | rfl | go_num, by omega, st6.out, how6.out⟩, rfl⟩)
              case measure => simp [intOf]; omega
            · obtain rfl : j = k := by omega
              have ST := Lib.hid st
              clear st how
              go_wp2_with fail
              go_roundw
              case rel => first | exact ⟨n + 1, addR t j M, ca, cc, ra, rc, by first | rfl | go_num, by omega, HT1.out, HP1, ST.out⟩ | ((repeat apply Exists.intro); exact ⟨⟨n + 1, addR t j M, ca, cc, ra, rc, by first | rfl | go_num, by omega, HT1.out, HP1, ST.out⟩, rfl⟩)
              case measure => simp [intOf]; omega
      · have st4 := st3.below hb4
        have how4 := World.ownsRow.kept how (grown_below (row := none) hb4) (Classical.em _)
        rcases hV with ⟨hvr, rfl⟩ | ⟨hvr, g1, cap1, rfl, hov⟩
        rotate_left
        · exact absurd ((rev60 hvr).2.symm.trans (desc30 hdr).2.2) (by decide)
        obtain ⟨hk1, hk30, _⟩ := desc30 hdr
        have htb : Wds (descT (L n)) := fun i => wd_wds (hL n) (4 + 2 * i)
        obtain ⟨k, hk⟩ : ∃ k, k = rowsN (L n) := ⟨_, rfl⟩
        obtain ⟨TB, hTB⟩ : ∃ TB, TB = descT (L n) := ⟨_, rfl⟩
        obtain ⟨TE, hTE⟩ : ∃ TE, TE = descE (L n) := ⟨_, rfl⟩
        have HPX : Hid (R = if k ≤ N - (n + 1) then tel L N (N - (n + 1 + k)) (n + 1 + k) (addC t L (n + 1) k TB TE) else addC t L (n + 1) (N - (n + 1)) TB TE) := by
          show _ = _
          rw [← HP.out, HSTEP.out, if_pos hdr, hk, hTB, hTE]
        rw [← hk, ← hTB, ← hTE] at how4
        rw [← hk] at hk30 hk1
        rw [← hTB] at htb
        rw [← hk]
        have HT1 : Hid (TOk (addC t L (n + 1) k TB TE) s (n + 1 + k)) := HT.out.addC hL hNf htb
        obtain ⟨wr0, hwr0⟩ : ∃ wr0, wr0 = wr.heap.size := ⟨_, rfl⟩
        rw [← hwr0] at how4
        have hw0r : w0.heap.size < wr0 := by have := HB00.out; omega
        have ST := Lib.hid st4
        have HOW := Lib.hid how4
        clear st4 how4 how st3 hrg3 hb4 hdr hvr hk hTB hTE HP HSTEP hwr0
        go_wp2_with fail
        go_loopw [6, 13, 14] (fun us c _ wr => ∃ (j : Nat) (ca : Option Addr) (cc : Nat), c = .int .i64 (j : Int) ∧ us = .int .i64 ((n + j : Nat) : Int) ∧ j ≤ k ∧ n + j < N ∧ PrS w0 (some ⟨b, off, none⟩) N L (t.n + j) t.m s (addC t L (n + 1) j TB TE).cb (addC t L (n + 1) j TB TE).cd t.rv ca cc ra rc wr ∧ wr.ownsRow wr0 67 2 (.slice (some ⟨g0, 0, none⟩) k cap0) k (Tc TB TE k)) (fun _ c _ _ => k - (intOf c).toNat)
        case atStart => exact ⟨0, ca, cc, rfl, rfl, Nat.zero_le _, by omega, addC_zero ST.out, HOW.out⟩
        case round =>
          clear ST HOW
          obtain ⟨j, ca, cc, rfl, rfl, hj, hnj, st, how⟩ := hrel
          obtain ⟨Z, hZ⟩ : ∃ Z, Z = n + j := ⟨_, rfl⟩
          obtain ⟨I, hI⟩ : ∃ I, I = n + 1 + j := ⟨_, rfl⟩
          rw [← hZ]
          have eI : (Z : Int) + 1 = (I : Int) := by omega
          have hZI : Z + 1 = I := by omega
          have hZN : Z < N := by omega
          have HII := Lib.hid hI
          have HZZ := Lib.hid hZ
          clear hnj hI hZ
          by_cases hlt : j < k
          · have hlt' : (j : Int) < (k : Int) := by omega
            have j0 : (0 : Int) ≤ (j : Int) := by omega
            have eW : IntKind.i64.wrap (I : Int) = (I : Int) := IntWalk.i64_in _ (by omega)
            have eW2 : IntKind.i64.wrap ((Z : Int) + 1) = (I : Int) := by rw [eI]; exact eW
            have I0 : (0 : Int) ≤ (I : Int) := by omega
            by_cases hin : I < N
            · have hin' : (I : Int) < (N : Int) := by omega
              have hrg := HRG.out wr st.l I hin
              have hX0 := Blk.new wr 40 256 (fun _ => 0)
              have hLx : Below wr.heap.size wr (wr.alloc (.cells (Ks .u8 256 fun _ => 0).toArray 40)) := (Below.refl _ _).alloc (Nat.le_refl _) _
              have ST := Lib.hid st
              have HOW := Lib.hid how
              clear st how
              go_wp2_with (first | (refine wp_loadMid rfl 40 (.tmp 59) rfl b (off + I * 256) (bkF L I) _ rfl hrg Tryd.underlying40 rfl (by rw [bkF_len]; exact info_block) ?_) | (refine wp_storeBlk rfl (.tmp 14) (.tmp 60) rfl wr.heap.size (L I) _ rfl rfl hX0 ?_))
              intro wa hXa hoa
              have hLa := hLx.trans (hoa.below (Nat.le_refl _))
              have hpx := hXa.lt
              obtain ⟨px, hpx0⟩ : ∃ px, px = wr.heap.size := ⟨_, rfl⟩
              have hpxw : w0.heap.size < px := by have := ST.out.b.lt; omega
              rw [← hpx0] at hXa hpx ⊢
              have STa := Lib.hid (ST.out.below hLa)
              have HOWa := Lib.hid (World.ownsRow.kept HOW.out (grown_below (row := none) hLa) (Classical.em _))
              have hsegT : TagSeg wa g0 0 k TB TE := by
                obtain ⟨a, c, he, hr, _⟩ := own_tags HOWa.out
                injection he with he1 _ _
                subst he1
                rcases hr with h | ⟨b', o', he, hs'⟩
                · omega
                · injection he with he; injection he with h1 h2; subst h1 h2; exact hs'
              have cT : wa.cell? ⟨g0, j * 2 + 1, none⟩ = some (.bool (TE j)) := by have := (hsegT j hlt).2; rwa [Nat.zero_add] at this
              clear hX0 hLx hoa hLa hrg ST HOW hsegT hpx0
              cases hte : TE j
              case' false =>
                rw [hte] at cT
                have HY : Hid (L I = if TE j = true then unescZ (L I) else L I) := by show _ = _; rw [hte]; rfl
                obtain ⟨y, hy⟩ : ∃ y, y = L I := ⟨_, rfl⟩
                rw [← hy] at hXa
                have HYY : Hid (y = if TE j = true then unescZ (L I) else L I) := by rw [hy]; exact HY
                clear HY hy hte
                go_wp2_with fail
              case' true =>
                rw [hte] at cT
                go_wp2_with (first | (refine wp_loadBlkG rfl (.tmp 14) rfl px (L I) rfl hXa ?_))
                refine (rUnescape_any (L I) (hL _) wa).mono ?_
                rintro e wb ⟨rfl, hbb⟩
                have hXb := hXa.below hbb hpx
                have STb := Lib.hid (STa.out.below hbb)
                have HOWb := Lib.hid (World.ownsRow.kept HOWa.out (grown_below (row := none) hbb) (Classical.em _))
                have hbsz := hbb.size
                clear hXa STa HOWa hbb cT
                go_wp2_with (first | (refine wp_storeBlk rfl (.tmp 14) (.tmp 67) rfl px (unescZ (L I)) _ rfl rfl hXb ?_))
                intro wa2 hXa hox
                have STa : Hid (PrS w0 (some ⟨b, off, none⟩) N L (t.n + j) t.m s (addC t L (n + 1) j TB TE).cb (addC t L (n + 1) j TB TE).cd t.rv ca cc ra rc wa2) := ⟨STb.out.b.only hox (by omega), own_only STb.out.c hox (at_own_ne hXb STb.out.c (by decide)), own_only STb.out.r hox (at_own_ne hXb STb.out.r (by decide)), RRow.only STb.out.l hox (fun b' o' e => by have := HLA.out b' o' e; omega), STb.out.bel.trans (hox.below (by omega))⟩
                have HOWa := Lib.hid (own_only HOWb.out hox (at_own_ne hXb HOWb.out (by decide)))
                have hpx := hXa.lt
                obtain ⟨y, hy⟩ : ∃ y, y = unescZ (L I) := ⟨_, rfl⟩
                rw [← hy] at hXa
                have HYY : Hid (y = if TE j = true then unescZ (L I) else L I) := by show _ = _; rw [hy, hte]; rfl
                clear hXb hox STb HOWb hte hy
                go_wp2_with fail
              all_goals
                have hw : IntKind.i64.wrap (TB j) = TB j := IntWalk.i64_in _ (by have := htb j; omega)
                obtain ⟨i0, hi0, hz0, hz1, hz2⟩ := info_copyP
                refine wp_region_mb (TlC w0 (some ⟨b, off, none⟩) N L (t.n + j) t.m s (addC t L (n + 1) j TB TE).cb (addC t L (n + 1) j TB TE).cd t.rv ca cc ra rc (addC t L (n + 1) (j + 1) TB TE).cb (addC t L (n + 1) (j + 1) TB TE).cd wr0 g0 k cap0 TB TE px (TB j) y) ⟨0, undef⟩ 13 (by kernel_rfl) (by kernel_rfl) (by kernel_rfl) (by kernel_rfl) (by kernel_rfl) (by kernel_rfl) (by decide) ⟨STa.out.b, STa.out.r, STa.out.l, HOWa.out, hXa, STa.out.bel.drew, fun _ => STa.out.c, (fun h => by cases h), (fun h => by cases h)⟩ ?_
                clear STa HOWa hXa
                intro hne
                have hc1 : ∀ y2 : InW (fun W => ∃ t', TlC w0 (some ⟨b, off, none⟩) N L (t.n + j) t.m s (addC t L (n + 1) j TB TE).cb (addC t L (n + 1) j TB TE).cd t.rv ca cc ra rc (addC t L (n + 1) (j + 1) TB TE).cb (addC t L (n + 1) (j + 1) TB TE).cd wr0 g0 k cap0 TB TE px (TB j) y t' W), y2.W.cell? ⟨w0.heap.size, 1, none⟩ = some (.slice ca (t.n + j) cc) := fun y2 => by obtain ⟨_, h⟩ := y2.h; exact h.b.cell (i := 1) rfl
                have hc0 : ∀ y2 : InW (fun W => ∃ t', TlC w0 (some ⟨b, off, none⟩) N L (t.n + j) t.m s (addC t L (n + 1) j TB TE).cb (addC t L (n + 1) j TB TE).cd t.rv ca cc ra rc (addC t L (n + 1) (j + 1) TB TE).cb (addC t L (n + 1) (j + 1) TB TE).cd wr0 g0 k cap0 TB TE px (TB j) y t' W), y2.W.cell? ⟨g0, j * 2, none⟩ = some (.int .u32 (TB j)) := fun y2 => by
                  obtain ⟨_, h⟩ := y2.h
                  obtain ⟨a, c, he, hr, _⟩ := own_tags h.tg
                  injection he with he1 _ _
                  subst he1
                  rcases hr with h | ⟨b', o', he, hs'⟩
                  · omega
                  · injection he with he; injection he with h1 h2; subst h1 h2; have := (hs' j hlt).1; rwa [Nat.zero_add] at this
                (refine Mv.lin_take 10 (by kernel_rfl) ?_; simp only [List.take_succ_cons, List.take_zero, List.drop_succ_cons, List.drop_zero])
                first | go_big_quiet_skip | (go_big_quiet_want; go_big_quiet_op; go_big_quiet_on)
                first | go_big_quiet_skip | (go_big_quiet_want; go_big_quiet_op; go_big_quiet_on)
                first | go_big_quiet_skip | (go_big_quiet_want; go_big_quiet_op; go_big_quiet_on)
                first | go_big_quiet_skip | (go_big_quiet_want; go_big_quiet_op; go_big_quiet_on)
                first | go_big_quiet_skip | (go_big_quiet_want; go_big_quiet_op; go_big_quiet_on)
                first | go_big_quiet_skip | (go_big_quiet_want; go_big_quiet_op; go_big_quiet_on)
                first | go_big_quiet_skip | (go_big_quiet_want; go_big_quiet_op; go_big_quiet_on)
                first | go_big_quiet_skip | (go_big_quiet_want; go_big_quiet_op; go_big_quiet_on)
                refine q_load rfl 40 (.tmp 14) rfl px 0 rfl (Ks .u8 256 y) _ (fun W h => by obtain ⟨_, h⟩ := h; exact h.xb.range) Tryd.underlying40 rfl (by rw [Ks_length]; exact info_block) ?_
                refine wpQuiet_frame (by simp only [Act.put, List.setIfInBounds_toArray, List.set_cons_succ, List.set_cons_zero]; exact rfl) ?_
                refine q_val rfl (.agg (cpc (TB j) y).toArray) (fun W => by kernel_rfl) ?_
                refine wpQuiet_frame (by simp only [Act.put, List.setIfInBounds_toArray, List.set_cons_succ, List.set_cons_zero]; exact rfl) ?_
                refine wpQuiet_nil ?_
                refine Mv.lin_build1 rfl _ _ _ _ rfl fun W hW => ⟨_, _, ⟨1, .slice (some ⟨W.heap.size, 0, none⟩) 1 1⟩, run_copy1 (TB j) y W, ?_, ?_⟩
                · refine ⟨hW.b.alloc _, RMine.alloc hW.r _, hW.l.alloc _, World.ownsRow.alloc hW.tg _, hW.xb.alloc _, hW.bel.alloc hW.bel.size _, fun _ => RMine.alloc (hW.s0 (by decide)) _, ?_, (fun h => by cases h)⟩
                  rintro _ q hq
                  injection hq with h1 h2 h3; injection h1 with h1; injection h1 with h1; subst h1
                  exact cells_news W (cpc (TB j) y) _
                generalize W.heap.size = gq at *
                clear hW
                refine Mv.frame (by simp only [Act.put, List.setIfInBounds_toArray, List.set_cons_succ, List.set_cons_zero]; exact rfl) ?_
                refine Mv.lin_append rfl _ _ _ rfl fun W hW => ?_
                have hown := hW.s0 (by show (1 : Nat) < 2; decide)
                have hWb := hW.b.lt
                obtain ⟨v', w', hr, ho, hg, _⟩ := run_append_own (P := Tryd.prog) W (w0.heap.size + 1) 26 26 61 i0 (.agg (cpc 0 fun _ => 0).toArray) 257 264 Tryd.underlying26 hi0 hz0 hz1 hz2 (by simp [Value.cells, Ks]) (by decide) (.slice ca (t.n + j) cc) (t.n + j) (Cs (cpF (addC t L (n + 1) j TB TE).cb (addC t L (n + 1) j TB TE).cd) (t.n + j)) hown ⟨gq, 0, none⟩ 1 1 (cpc (TB j) y) (by rw [cpc_len])
                  (hW.s1 rfl gq rfl) (cpF_one (fun _ => TB j) (fun _ => y) 0) (by unfold maxLen; omega) (by omega) (by omega)
                refine ⟨v', w', ⟨2, v'⟩, hr, ?_, ?_⟩
                · have hob : ∀ q, (Value.slice ca (t.n + j) cc).ownBlock = some q → w0.heap.size + 1 ≤ q := fun q hq => (World.ownsRow.lt hown q hq).1
                  obtain ⟨ac1, ac2⟩ := addC_at t L (n + 1) j TB TE
                  refine ⟨AtGrown hW.b hg (fun e => by have := hob _ e; omega), World.ownsRow.kept hW.r hg (own_block_ne hW.r hown (by decide)), RRowG hW.l hg (fun b' off' e h0 => ⟨by have := HLA.out b' off' e; omega, fun e2 => by have := hob _ e2; have := HLA.out b' off' e; omega⟩), World.ownsRow.kept hW.tg hg (own_block_ne hW.tg hown (by decide)), AtGrown hW.xb hg (at_own_ne hW.xb hown (by decide)), hW.bel.grown hg hW.bel.size (fun q e => by have := hob q e; omega), (fun h => absurd h (by show ¬ (2 : Nat) < 2; decide)), (fun h => by cases h), fun _ => ?_⟩
                  refine RMine.snoc (news := cpc (TB j) y) (f := cpF (addC t L (n + 1) (j + 1) TB TE).cb (addC t L (n + 1) (j + 1) TB TE).cd) ?_ ?_
                  · rw [Cs_congr (f := cpF (addC t L (n + 1) (j + 1) TB TE).cb (addC t L (n + 1) (j + 1) TB TE).cd) (g := cpF (addC t L (n + 1) j TB TE).cb (addC t L (n + 1) j TB TE).cd) (n := t.n + j) (fun i hi => by unfold cpF; rw [(addC_low t L (n + 1) j TB TE hi).1, (addC_low t L (n + 1) j TB TE hi).2])]
                    exact ho
                  · show _ = cpc ((addC t L (n + 1) (j + 1) TB TE).cb (t.n + j)) ((addC t L (n + 1) (j + 1) TB TE).cd (t.n + j))
                    rw [ac1, ac2, HYY.out, ← HII.out]
                clear hr ho hg hW hown hWb
                refine Mv.frame (by simp only [Act.put, List.setIfInBounds_toArray, List.set_cons_succ, List.set_cons_zero]; exact rfl) ?_
                (refine Mv.lin_take 1 (by kernel_rfl) ?_; simp only [List.take_succ_cons, List.take_zero, List.drop_succ_cons, List.drop_zero])
                first | go_big_quiet_skip | (go_big_quiet_want; go_big_quiet_op; go_big_quiet_on)
                refine wpQuiet_nil ?_
                refine Mv.wpLin_nil ?_
                intro w5 h5
                clear hc0 hc1 hne
                have hv5 := h5.s2 rfl
                obtain ⟨ca5, cc5, rfl⟩ : ∃ a c, v' = .slice a (t.n + j + 1) c := RMine.form hv5
                have c5 : w5.cell? ⟨w0.heap.size, 1, none⟩ = some (.slice ca (t.n + j) cc) := h5.b.cell (i := 1) rfl
                have f5 : w5.frozen? ⟨w0.heap.size, 1, none⟩ = false := soft_of_heap h5.b 1
                have ho5 := Only.setCell w5 ⟨w0.heap.size, 1, none⟩ (.slice ca5 (t.n + j + 1) cc5)
                have st6 : Hid (PrS w0 (some ⟨b, off, none⟩) N L (t.n + (j + 1)) t.m s (addC t L (n + 1) (j + 1) TB TE).cb (addC t L (n + 1) (j + 1) TB TE).cd t.rv ca5 cc5 ra rc (w5.setCell ⟨w0.heap.size, 1, none⟩ (.slice ca5 (t.n + j + 1) cc5))) :=
                  ⟨h5.b.setF 1 _, own_only hv5 ho5 (at_own_ne h5.b hv5 (by decide)), own_only h5.r ho5 (at_own_ne h5.b h5.r (by decide)), RRowO h5.l ho5 (fun b' off' e h0 => by have := HLA.out b' off' e; show b' ≠ w0.heap.size; omega), h5.bel.trans (ho5.below (Nat.le_refl _))⟩
                have how6 := Lib.hid (own_only h5.tg ho5 (fun e => by have := (World.ownsRow.lt h5.tg _ e).1; change _ ≤ w0.heap.size at this; omega))
                have hI9 : I = n + (j + 1) := by have := HII.out; omega
                clear h5 hv5 ho5
                go_wp2_with fail
                go_roundw
                case rel => first | exact ⟨j + 1, ca5, cc5, by first | rfl | go_num, by rw [← hI9], by omega, by omega, st6.out, how6.out⟩ | ((repeat apply Exists.intro); exact ⟨⟨j + 1, ca5, cc5, by first | rfl | go_num, by rw [← hI9], by omega, by omega, st6.out, how6.out⟩, rfl⟩)
                case measure => simp [intOf]; omega
            · have hin' : (N : Int) ≤ (I : Int) := by omega
              have HRt : Hid (R = addC t L (n + 1) j TB TE) := by
                show _ = _
                have h1 := HII.out
                rw [HPX.out, if_neg (by omega), show N - (n + 1) = j by omega]
              have hb5 := st.b
              obtain ⟨hr4, hbe⟩ := st.res' HW0.out
              have HCZ := Lib.hid st.c
              have HRZ := Lib.hid st.r
              have HBZ := Lib.hid hbe
              clear st hbe how
              go_wp2_with (first | (refine wp_loadAtG rfl 28 (.tmp 5) rfl _ _ _ rfl hb5 Tryd.underlying28 rfl (info_trans _ _ _ _ _ _ _) ?_) | (refine wp_storeAt rfl 28 (.tmp 4) (.tmp 56) rfl w.heap.size (tcells s ca (t.n + j) cc ra t.m rc) _ rfl rfl hr4 (info_trans 0 none 0 0 none 0 0) rfl (by kernel_rfl) ?_))
              intro wz hBz hoz
              have HCZ2 := Lib.hid (own_only HCZ.out hoz (fun e => by have := (World.ownsRow.lt HCZ.out _ e).1; have := HSZ0.out; omega))
              have HRZ2 := Lib.hid (own_only HRZ.out hoz (fun e => by have := (World.ownsRow.lt HRZ.out _ e).1; have := HSZ0.out; omega))
              have HLZ := Lib.hid (HBZ.out.trans (hoz.below (Nat.le_refl _)))
              clear hoz hb5 hr4 HCZ HRZ
              go_wp2_with fail
              refine bodyPost_ret (results_t4 rfl _ _ _ rfl hBz) rfl ?_
              rw [HRt.out]
              exact ⟨ca, cc, ra, rc, rfl, RMine.low HCZ2.out (by have := HSZ0.out; omega), RMine.low HRZ2.out (by have := HSZ0.out; omega), HLZ.out⟩
          · obtain rfl : j = k := by omega
            have HP1 : Hid (tel L N (N - I) I (addC t L (n + 1) j TB TE) = R) := by show _ = _; rw [HPX.out, if_pos (by have := HZZ.out; omega), HII.out]
            have HT2 := HT1.out
            rw [← HII.out] at HT2
            have HT3 := Lib.hid HT2
            have ST := Lib.hid st
            have eW2 : IntKind.i64.wrap ((Z : Int) + 1) = (I : Int) := by rw [eI]; exact IntWalk.i64_in _ (by omega)
            clear st how HT2
            go_wp2_with fail
            go_roundw
            case rel => first | exact ⟨I, addC t L (n + 1) j TB TE, ca, cc, ra, rc, by first | rfl | go_num, by omega, HT3.out, HP1, ST.out⟩ | ((repeat apply Exists.intro); exact ⟨⟨I, addC t L (n + 1) j TB TE, ca, cc, ra, rc, by first | rfl | go_num, by omega, HT3.out, HP1, ST.out⟩, rfl⟩)
            case measure => have := HII.out; simp [intOf]; omega
end Go.Proofs.YthkalmdpbhjafaaDoor

/- quernref15.Unpack. -/
namespace Go.Proofs.YthkalmdpbhjafaaDoor
open Go.RowKit
set_option linter.unusedVariables false

/-- while the reference looks for an end -/
structure UnS (w : World) (la : Option Addr) (N : Nat) (L : Nat → Nat → Int) (W : World) : Prop where
  b : At W w.heap.size 28 (tcells 0 none 0 0 none 0 0)
  l : RRow W la 256 N (bkF L)
  bel : Below w.heap.size w W
theorem UnS.below {w : World} {la : Option Addr} {N : Nat} {L : Nat → Nat → Int} {W W' : World} (h : UnS w la N L W) (hb : Below W.heap.size W W') : UnS w la N L W' :=
  ⟨h.b.below hb h.b.lt, h.l.below (by intro e; have := bkF_len L 0; rw [e] at this; cases this) hb, h.bel.trans (hb.mono h.bel.size)⟩
theorem build_trans00 (w : World) : (Instr.build 28 #[]).run Tryd.prog w = .ok (.agg (tcells 0 none 0 0 none 0 0)) w := by kernel_rfl

set_option maxRecDepth 100000 in
set_option maxHeartbeats 16000000 in
theorem rUnpack_any (la : Option Addr) (N lcap : Nat) (L : Nat → Nat → Int) (hL : ∀ i, Byt (L i)) (hNf : ∀ i, NfB (L i)) (s : Int) (hs : 0 ≤ s ∧ s < 4294967296) (hN : N ≤ 4096) (hNc : N ≤ lcap) (hc : (lcap : Int) ≤ 9223372036854775807) (w : World) (hl : RRow w la 256 N (bkF L)) (hla : ∀ b off, la = some ⟨b, off, none⟩ → b < w.heap.size) :
    Calls Tryd.prog 20 #[.slice la N lcap, .int .u32 s] w fun e w' => ParsePost w s (unp L N s) e w' ∧ Below w.heap.size w w' := by
  have halt := zero_trans
  have hbt := build_trans00
  have st0 : Hid (UnS w la N L (w.alloc (.cells (tcells 0 none 0 0 none 0 0) 28))) := ⟨At.new w _ _, hl.alloc _, (Below.refl _ _).alloc (Nat.le_refl _) _⟩
  have HLA : Hid (∀ b off, la = some ⟨b, off, none⟩ → b < w.heap.size) := hla
  clear hl hla
  go_enter Tryd.func20, Tryd.ntmps20
  go_wp2_with fail
  go_loopw [7, 8, 9, 10, 11, 12, 13, 14] (fun u _ _ _ _ _ _ _ wr => ∃ a : Nat, u = .int .i64 (a : Int) ∧ a ≤ N ∧ a ≤ 255 ∧ Hid (∀ c, c < a → ¬ okAt L s c) ∧ UnS w la N L wr) (fun u _ _ _ _ _ _ _ _ => 255 - (intOf u).toNat)
  case atStart => exact ⟨0, rfl, Nat.zero_le _, Nat.zero_le _, (fun c hc => by omega), st0.out⟩
  case round =>
    clear st0
    obtain ⟨a, rfl, haN, ha255, HNO, st⟩ := hrel
    by_cases hlt : a < N ∧ a < 255
    rotate_left
    · have HU : Hid (unp L N s = none) := by
        show _ = _
        cases e : unp L N s with
        | none => rfl
        | some x =>
          obtain ⟨t, u⟩ := x
          obtain ⟨h1, h2⟩ := unp_ok hL hNf hs e
          exact absurd h2 (HNO.out (u - 1) (by omega))
      have hcase : (¬ (a : Int) < (N : Int)) ∨ ((a : Int) < (N : Int) ∧ ¬ (a : Int) < 255) := by omega
      have hb4 := st.b
      have HB := Lib.hid st.bel
      clear st hlt
      rcases hcase with g1 | ⟨g1, g2⟩
      all_goals
        go_wp2_with (first | (refine wp_storeAt rfl 28 (.tmp 4) (.tmp 70) rfl w.heap.size (tcells 0 none 0 0 none 0 0) _ rfl rfl hb4 (info_trans 0 none 0 0 none 0 0) rfl (by kernel_rfl) ?_))
        intro wz hBz hoz
        have HLZ := Lib.hid (HB.out.trans (hoz.below (Nat.le_refl _)))
        clear hoz hb4
        go_wp2_with fail
        exact bodyPost_ret (results_prs rfl _ _ _ rfl hBz) rfl ⟨.inl ⟨HU.out, rfl⟩, HLZ.out⟩
    · obtain ⟨hlt1, hlt2⟩ := hlt
      have g1 : (a : Int) < (N : Int) := by omega
      have g2 : (a : Int) < 255 := by omega
      have a0 : (0 : Int) ≤ (a : Int) := by omega
      obtain ⟨b, off, rfl⟩ := st.l.some_of (by omega)
      have hrg : wr.rangeAt b (off + a * 256) (bkF L a) := by
        rcases st.l with h | ⟨b', off', e, h⟩
        · omega
        · injection e with e; injection e with e1 e2; subst e1 e2; exact h.range a hlt1
      go_wp2_with (first | (refine wp_loadMid rfl 40 (.tmp 28) rfl b (off + a * 256) (bkF L a) _ rfl hrg Tryd.underlying40 rfl (by rw [bkF_len]; exact info_block) ?_))
      refine (rReadCommit_any (L a) (hL a) wr).mono ?_
      rintro e w2 ⟨rfl, hb2⟩
      have ST2 := Lib.hid (st.below hb2)
      have HW2 : Hid (w.heap.size ≤ w2.heap.size) := (st.below hb2).bel.size
      clear st hrg hb2
      have hcase : (endB L s a = false ∧ (commitV (L a) = .tuple #[.int .u32 0, .int .i64 0, .int .u32 0, .int .i64 90] ∨ ∃ q v u : Int, commitV (L a) = .tuple #[.int .u32 q, .int .i64 v, .int .u32 u, .int .i64 0] ∧ ((q != s) = true ∨ (q != s) = false ∧ (v != (a : Int)) = true))) ∨ (endB L s a = true ∧ ∃ u : Int, commitV (L a) = .tuple #[.int .u32 s, .int .i64 (a : Int), .int .u32 u, .int .i64 0]) := by
        unfold endB commitV
        cases h1 : commitRd (L a) with
        | false => exact .inl ⟨rfl, .inl rfl⟩
        | true =>
          by_cases h2 : seqOf (L a) = s
          · by_cases h3 : wd (L a) 3 = (a : Int)
            · exact .inr ⟨by rw [h2, h3]; simp, wd (L a) 4, by rw [if_pos rfl, h2, h3]⟩
            · exact .inl ⟨by rw [h2, beq_eq_false_iff_ne.2 h3]; simp, .inr ⟨_, _, _, by rw [if_pos rfl], .inr ⟨by rw [h2]; simp, by simpa using h3⟩⟩⟩
          · exact .inl ⟨by rw [beq_eq_false_iff_ne.2 h2]; simp, .inr ⟨_, _, _, by rw [if_pos rfl], .inl (by simpa using h2)⟩⟩
      have HGO : Hid (endB L s a = false → ∀ c, c < a + 1 → ¬ okAt L s c) := fun hne c hc => by
        by_cases h : c = a
        · subst h; intro h; rw [h.1] at hne; cases hne
        · exact HNO.out c (by omega)
      rcases hcase with ⟨hne, hv | ⟨q, v, u, hv, hq | ⟨hq, hq2⟩⟩⟩ | ⟨hen, u, hv⟩
      · rw [hv]
        have HN2 := Lib.hid (HGO.out hne)
        clear hv hne
        go_wp2_with fail
        go_roundw
        case rel => first | exact ⟨a + 1, by first | rfl | go_num, by omega, by omega, HN2, ST2.out⟩ | ((repeat apply Exists.intro); exact ⟨⟨a + 1, by first | rfl | go_num, by omega, by omega, HN2, ST2.out⟩, rfl⟩)
        case measure => simp [intOf]; omega
      · rw [hv]
        have HN2 := Lib.hid (HGO.out hne)
        clear hv hne
        go_wp2_with fail
        go_roundw
        case rel => first | exact ⟨a + 1, by first | rfl | go_num, by omega, by omega, HN2, ST2.out⟩ | ((repeat apply Exists.intro); exact ⟨⟨a + 1, by first | rfl | go_num, by omega, by omega, HN2, ST2.out⟩, rfl⟩)
        case measure => simp [intOf]; omega
      · rw [hv]
        have HN2 := Lib.hid (HGO.out hne)
        clear hv hne
        go_wp2_with fail
        go_roundw
        case rel => first | exact ⟨a + 1, by first | rfl | go_num, by omega, by omega, HN2, ST2.out⟩ | ((repeat apply Exists.intro); exact ⟨⟨a + 1, by first | rfl | go_num, by omega, by omega, HN2, ST2.out⟩, rfl⟩)
        case measure => simp [intOf]; omega
      · rw [hv]
        have qs : (s != s) = false := by simp
        have qa : ((a : Int) != (a : Int)) = false := by simp
        have hsl := fun W => run_takeB (some ⟨b, off, none⟩) N lcap a (a : Int) rfl (by omega) W
        have HEN := Lib.hid hen
        clear hv hen
        go_wp2_with fail
        refine (rTells_any (some ⟨b, off, none⟩) a lcap L hL hNf s hs (by omega) w2 (ST2.out.l.take a (by omega)) (fun b' off' e => by have := HLA.out b' off' e; have := ST2.out.bel.size; omega)).mono ?_
        rintro e w3 ⟨ca, cc, ra, rc, rfl, hC, hR, hb3⟩
        have hT := tel_ok hL hNf (N := a) (s := s) a 0 (tr0 s) (TOk.zero s) (Nat.zero_le _)
        have HOKD : Hid (okAt L s a ↔ (packE (tel L a a 0 (tr0 s)) = 0 ∧ sameB (pkB (tel L a a 0 (tr0 s))) L ((tel L a a 0 (tr0 s)).c + 1) (a + 1) = true)) := ⟨fun h => h.2, fun h => ⟨HEN.out, h⟩⟩
        have HUN : Hid (okAt L s a → unp L N s = some (tel L a a 0 (tr0 s), a + 1)) := fun h => ok_unp hL hNf hs (by omega) h
        obtain ⟨t, ht⟩ : ∃ t, t = tel L a a 0 (tr0 s) := ⟨_, rfl⟩
        rw [← ht] at hC hR hT HOKD HUN
        rw [← ht]
        have htok := hT.p.ok hs (by omega)
        have htn := hT.p.n
        have htm := hT.p.m
        have HTS := Lib.hid hT.p.s
        have HTOK := Lib.hid htok
        have ST3 := Lib.hid (ST2.out.below hb3)
        have HC3 := Lib.hid hC
        have HR3 := Lib.hid hR
        have hP3 := At.new w3 28 (tcells 0 none 0 0 none 0 0)
        have hL3 : Below w3.heap.size w3 (w3.alloc (.cells (tcells 0 none 0 0 none 0 0) 28)) := (Below.refl _ _).alloc (Nat.le_refl _) _
        clear hC hR hb3 hT htok ST2 ht hsl qs qa HEN
        go_wp2_with (first | (refine wp_storeAt rfl 28 (.tmp 12) (.tmp 51) rfl w3.heap.size (tcells s ca t.n cc ra t.m rc) _ rfl rfl hP3 (info_trans 0 none 0 0 none 0 0) rfl (by kernel_rfl) ?_))
        intro w4 hP4 ho4
        have hL4 := hL3.trans (ho4.below (Nat.le_refl _))
        have ST4 := Lib.hid (ST3.out.below hL4)
        have HC4 := Lib.hid (RMine.below HC3.out hL4)
        have HR4 := Lib.hid (RMine.below HR3.out hL4)
        have hlt4 := hP4.lt
        clear hP3 hL3 ho4 hL4 ST3 HC3 HR3
        go_wp2_with (first | (refine wp_loadAtG rfl 28 (.tmp 12) rfl _ _ _ rfl hP4 Tryd.underlying28 rfl (info_trans _ _ _ _ _ _ _) ?_))
        have hpk := rPack_any t HTOK.out ca cc ra rc w4 (RMine.row HC4.out (cpF_len _ _)) (RMine.row HR4.out (inF_len _)) (fun b off e => (World.ownsRow.lt HC4.out b (by rw [e]; rfl)).2) (fun b off e => (World.ownsRow.lt HR4.out b (by rw [e]; rfl)).2)
        rw [HTS.out] at hpk
        refine hpk.mono ?_
        rintro e w5 ⟨hp, hb5⟩
        have ST5 := Lib.hid (ST4.out.below hb5)
        have HC5 := Lib.hid (RMine.below HC4.out hb5)
        have HR5 := Lib.hid (RMine.below HR4.out hb5)
        have hP5 := hP4.below hb5 hlt4
        clear hpk hb5 ST4 HC4 HR4 hP4
        rcases hp with ⟨hE, rfl⟩ | ⟨hE, q, cap, rfl, hl5⟩
        · have HN2 : Hid (∀ c, c < a + 1 → ¬ okAt L s c) := fun c hc => by
            by_cases h : c = a
            · subst h; rw [HOKD.out]; exact fun h => hE h.1
            · exact HNO.out c (by omega)
          have qE : (packE t == 0) = false := by rw [beq_eq_false_iff_ne]; exact hE
          clear hE hP5
          go_wp2_with fail
          go_roundw
          case rel => first | exact ⟨a + 1, by first | rfl | go_num, by omega, by omega, HN2, ST5.out⟩ | ((repeat apply Exists.intro); exact ⟨⟨a + 1, by first | rfl | go_num, by omega, by omega, HN2, ST5.out⟩, rfl⟩)
          case measure => simp [intOf]; omega
        · have eA : IntKind.i64.wrap ((a : Int) + 1) = ((a + 1 : Nat) : Int) := by rw [show ((a + 1 : Nat) : Int) = (a : Int) + 1 by omega]; exact IntWalk.i64_in _ (by omega)
          obtain ⟨A1, hA1⟩ : ∃ A1, A1 = a + 1 := ⟨_, rfl⟩
          have eA' : (a : Int) + 1 = (A1 : Int) := by omega
          have hsl := fun W => run_takeB (some ⟨b, off, none⟩) N lcap A1 (A1 : Int) rfl (by omega) W
          obtain ⟨h1, h2⟩ := packE_zero hE
          have hcs := size_c h1
          have HE := Lib.hid hE
          have HL5 := Lib.hid hl5
          have HA1 := Lib.hid hA1
          have hA1N : A1 ≤ N := by omega
          clear hE hl5 eA hA1 h1
          go_wp2_with fail
          refine (sameBlocks_any (some ⟨q, 0, none⟩) (some ⟨b, off, none⟩) (t.c + 1) A1 cap lcap (pkB t) L (by omega) (by omega) w5 (RMine.row HL5.out (bkF_len _)) (ST5.out.l.take A1 hA1N)).mono ?_
          rintro e w6 ⟨rfl, d, hd⟩
          have ST6 : Hid (UnS w (some ⟨b, off, none⟩) N L w6) := by rw [hd]; have h := ST5.out; exact ⟨h.b, h.l, ⟨h.bel.os, h.bel.tape, h.bel.output, h.bel.size, h.bel.block⟩⟩
          have hP6 : At w6 w3.heap.size 28 (tcells s ca t.n cc ra t.m rc) := by rw [hd]; exact hP5
          have HC6 : Hid (RMine w6 (w2.heap.size + 1) 61 257 (.slice ca t.n cc) t.n (cpF t.cb t.cd)) := by rw [hd]; exact HC5.out
          have HR6 : Hid (RMine w6 (w2.heap.size + 1) 3 1 (.slice ra t.m rc) t.m (inF t.rv)) := by rw [hd]; exact HR5.out
          clear hd ST5 hP5 HC5 HR5 hsl
          cases hsb : sameB (pkB t) L (t.c + 1) A1 with
          | false =>
            have HN2 : Hid (∀ c, c < a + 1 → ¬ okAt L s c) := fun c hc => by
              by_cases h : c = a
              · subst h; rw [HOKD.out, ← HA1.out, hsb]; exact fun h => by cases h.2
              · exact HNO.out c (by omega)
            clear hP6 hsb
            go_wp2_with fail
            go_roundw
            case rel => first | exact ⟨a + 1, by rw [← HA1.out], by omega, by omega, HN2, ST6.out⟩ | ((repeat apply Exists.intro); exact ⟨⟨a + 1, by rw [← HA1.out], by omega, by omega, HN2, ST6.out⟩, rfl⟩)
            case measure => have := HA1.out; simp [intOf]; omega
          | true =>
            have HU : Hid (unp L N s = some (t, A1)) := by
              show _ = _
              rw [HA1.out]
              exact HUN.out (HOKD.out.2 ⟨HE.out, by rw [← HA1.out]; exact hsb⟩)
            have hb4 := ST6.out.b
            clear hsb
            go_wp2_with (first | (refine wp_loadAtG rfl 28 (.tmp 12) rfl _ _ _ rfl hP6 Tryd.underlying28 rfl (info_trans _ _ _ _ _ _ _) ?_) | (refine wp_storeAt rfl 28 (.tmp 4) (.tmp 67) rfl w.heap.size (tcells s ca t.n cc ra t.m rc) _ rfl rfl hb4 (info_trans 0 none 0 0 none 0 0) rfl (by kernel_rfl) ?_))
            intro wz hBz hoz
            have hw2s := ST6.out.bel.size
            have HCZ := Lib.hid (own_only HC6.out hoz (fun e => by have := (World.ownsRow.lt HC6.out _ e).1; have := HW2.out; omega))
            have HRZ := Lib.hid (own_only HR6.out hoz (fun e => by have := (World.ownsRow.lt HR6.out _ e).1; have := HW2.out; omega))
            have HLZ := Lib.hid (ST6.out.bel.trans (hoz.below (Nat.le_refl _)))
            clear hoz hb4 hP6
            go_wp2_with fail
            refine bodyPost_ret (results_prs rfl _ _ _ rfl hBz) rfl ⟨.inr ⟨t, A1, ca, cc, ra, rc, HU.out, rfl, RMine.low HCZ.out (by have := HW2.out; omega), RMine.low HRZ.out (by have := HW2.out; omega)⟩, HLZ.out⟩
end Go.Proofs.YthkalmdpbhjafaaDoor

