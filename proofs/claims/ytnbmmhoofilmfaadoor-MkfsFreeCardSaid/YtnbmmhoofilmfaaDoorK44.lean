/- Texts of this claim, merged by a program (a claim may have 60 files): CkQ, Ck2, WMkFr. -/
import Derived.Test.YtnbmmhoofilmfaaDoorK43
import Derived.Test.YtnbmmhoofilmfaaDoorK20
import Derived.Test.YtnbmmhoofilmfaaDoorK28
/- check: what it tells of an image: the rule, the superblock, whether it is quiet, the owners. -/
namespace Go.Proofs.YtnbmmhoofilmfaaDoor
open Go.RowKit
set_option linter.unusedVariables false

/-- the rule's number, as Go's number -/
def exN (L : Nat → Nat → Int) (n : Nat) : Int := (((Im.of L n).exam.1 : Nat) : Int)
def OwnPost (w : World) (n : Nat) (L : Nat → Nat → Int) (e : Ending) (w' : World) : Prop :=
  Below w.heap.size w w' ∧ (((Im.of L n).exam.1 ≠ 0 ∧ e = .returned (.slice none 0 0)) ∨ ((Im.of L n).exam.1 = 0 ∧ (Im.of L n).Ok ∧ ∃ g, e = .returned (.slice (some ⟨g, 0, none⟩) n n) ∧ w.heap.size ≤ g ∧ RArr w' g 3 1 n (ownF (Im.of L n).exam.2)))
set_option maxRecDepth 100000 in
theorem ckOwners_any (v : Value) (n : Nat) (L : Nat → Nat → Int) (hL : ∀ i, Byt (L i)) (hn9 : n ≤ 4294967296) (w : World) (hT : Tab w) (hv : ImV w v n L) :
    Calls Tryd.prog 23 #[v] w fun e w' => OwnPost w n L e w' := by
  have HE := Lib.hid (ckExamine_all v n L hL hn9 w hT hv)
  clear hT hv hL
  go_enter Tryd.func23, Tryd.ntmps23
  go_wp2_with fail
  refine HE.out.mono ?_
  rintro e w1 ⟨p, rfl, hb, hx⟩
  have HB := Lib.hid hb
  have HX := Lib.hid hx
  clear hb HE hx
  obtain ⟨K, hK⟩ : ∃ K, K = (((Im.of L n).exam.1 : Nat) : Int) := ⟨_, rfl⟩
  rw [← hK]
  have HK := Lib.hid hK
  clear hK
  by_cases h0 : K = 0
  · have q0 : (K != 0) = false := by simp [h0]
    have e0 : (Im.of L n).exam.1 = 0 := by have := HK.out; omega
    obtain ⟨hok, ds, ino, orp, sl, un, g, hA, hR, hg, hpg⟩ := HX.out e0
    have c13 : w1.cell? ⟨p, 13, none⟩ = some (.slice (some ⟨g, 0, none⟩) n n) := hA.cell (i := 13) rfl
    have HF : Hid ((Im.of L n).exam.1 = 0 ∧ (Im.of L n).Ok ∧ w.heap.size ≤ g ∧ RArr w1 g 3 1 n (ownF (Im.of L n).exam.2)) := ⟨e0, hok, hg, hR⟩
    clear h0 HX hA hR hg hpg hok e0
    go_wp2_with fail
    go_ret
    exact ⟨HB.out, .inr ⟨HF.out.1, HF.out.2.1, g, rfl, HF.out.2.2⟩⟩
  · have q0 : (K != 0) = true := by simp [h0]
    have E0 : Hid ((Im.of L n).exam.1 ≠ 0) := by show _ ≠ _; have := HK.out; omega
    clear h0 HX
    go_wp2_with fail
    go_ret
    exact ⟨HB.out, .inl ⟨E0.out, rfl⟩⟩
end Go.Proofs.YtnbmmhoofilmfaaDoor

/- The empty image is a file system: plain law. -/
namespace Go.Proofs.YtnbmmhoofilmfaaDoor
open Go.RowKit
set_option linter.unusedVariables false

/-- the empty image -/
abbrev mkIm (g s i j : Nat) : Im := ⟨mkB g s i j, 2 + j + g * s, g, s, i, j, 0⟩
theorem mk_heads {g s i j : Nat} (hm : mayG g s i j = true) : readE (mkB g s i j 0) = 0 ∧ hd (mkB g s i j 0) 4 = g ∧ hd (mkB g s i j 0) 5 = s ∧ hd (mkB g s i j 0) 6 = i ∧ hd (mkB g s i j 0) 7 = j ∧ g32 (mkB g s i j 0) 16 = 0 := by
  obtain ⟨h1, h2, h3, h4, h5, h6, h7, h8, h9, h10, h11⟩ := mayN hm
  obtain ⟨hE, hV⟩ := sup_back (supOk0 hm) ⟨Int.le_refl 0, by decide⟩
  rw [mkB_0 h8]
  refine ⟨hE, ?_⟩
  unfold readV at hV
  rw [if_pos hE] at hV
  simp only [Value.agg.injEq, Array.mk.injEq, List.cons.injEq, Value.int.injEq, true_and, and_true] at hV
  exact hV
theorem mk_of {g s i j : Nat} (hm : mayG g s i j = true) : Im.of (mkB g s i j) (2 + j + g * s) = mkIm g s i j := by
  obtain ⟨hE, e4, e5, e6, e7, e8⟩ := mk_heads hm
  unfold Im.of
  rw [e4, e5, e6, e7, e8]
  simp only [Int.toNat_natCast, Int.toNat_zero]
theorem mk_st {g s i j k : Nat} (hm : mayG g s i j = true) : mkB g s i j ((mkIm g s i j).st k) = bZ (mapB (2 + i / 4) s) := by
  obtain ⟨h1, h2, h3, h4, h5, h6, h7, h8, h9, h10, h11⟩ := mayN hm
  have := mkB_group (g := g) (i := i) (γ := k) (d := 0) h3 h8 (by omega)
  rw [if_neg (by omega), if_pos rfl] at this
  exact this
theorem mk_st1 {g s i j k : Nat} (hm : mayG g s i j = true) : mkB g s i j ((mkIm g s i j).st k + 1) = bZ (mapB (if k = 0 then 1 else 0) i) := by
  obtain ⟨h1, h2, h3, h4, h5, h6, h7, h8, h9, h10, h11⟩ := mayN hm
  have := mkB_group (g := g) (i := i) (γ := k) (d := 1) h3 h8 (by omega)
  rw [if_neg (by omega), if_neg (by omega), if_pos rfl] at this
  exact this
theorem mk_tab {g s i j t : Nat} (hm : mayG g s i j = true) (h : 1 ≤ t) : mkB g s i j ((mkIm g s i j).ib t) = if t ≤ 4 ∧ t ≤ i then rootZ else fun _ => 0 := by
  obtain ⟨h1, h2, h3, h4, h5, h6, h7, h8, h9, h10, h11⟩ := mayN hm
  have hr : (t - 1) % i < i := Nat.mod_lt _ (by omega)
  have := mkB_group (g := g) (i := i) (γ := (t - 1) / i) (d := 2 + (t - 1) % i / 4) h3 h8 (by omega)
  have e : (mkIm g s i j).ib t = 2 + j + (t - 1) / i * s + (2 + (t - 1) % i / 4) := by show 2 + j + (t - 1) / i * s + 2 + (t - 1) % i / 4 = _; omega
  rw [e, this]
  by_cases c : t ≤ 4 ∧ t ≤ i
  · rw [if_pos c]
    have e1 : (t - 1) / i = 0 := Nat.div_eq_of_lt (by omega)
    have e2 : (t - 1) % i = t - 1 := Nat.mod_eq_of_lt (by omega)
    rw [e1, e2, if_pos ⟨rfl, by omega⟩]
  · rw [if_neg c, if_neg, if_neg (by omega), if_neg (by omega)]
    rintro ⟨e1, e2⟩
    have e3 : t - 1 < i := by
      rcases Nat.lt_or_ge (t - 1) i with h | h
      · exact h
      · have := Nat.div_pos h (by omega); omega
    rw [Nat.mod_eq_of_lt e3] at e2
    omega
theorem zero_get : getErr (fun _ => 0) 0 = 0 ∧ getErr (fun _ => 0) 64 = 0 ∧ getErr (fun _ => 0) 128 = 0 ∧ getErr (fun _ => 0) 192 = 0 := by decide
theorem root_get : getErr rootZ 0 = 0 ∧ getErr rootZ 64 = 0 ∧ getErr rootZ 128 = 0 ∧ getErr rootZ 192 = 0 := by decide
theorem root_ino : (getIno rootZ 0).kind = 2 ∧ (getIno rootZ 0).links = 1 ∧ (getIno rootZ 0).size = 0 ∧ (getIno rootZ 0).next = 0 ∧ allZ (getIno rootZ 0).p 11 = true := by decide
theorem root_free : ((getIno rootZ 64).kind = 0 ∧ (getIno rootZ 64).next = 0) ∧ ((getIno rootZ 128).kind = 0 ∧ (getIno rootZ 128).next = 0) ∧ ((getIno rootZ 192).kind = 0 ∧ (getIno rootZ 192).next = 0) := by decide
theorem zero_free : ((getIno (fun _ => 0) 0).kind = 0 ∧ (getIno (fun _ => 0) 0).next = 0) ∧ ((getIno (fun _ => 0) 64).kind = 0 ∧ (getIno (fun _ => 0) 64).next = 0) ∧ ((getIno (fun _ => 0) 128).kind = 0 ∧ (getIno (fun _ => 0) 128).next = 0) ∧ ((getIno (fun _ => 0) 192).kind = 0 ∧ (getIno (fun _ => 0) 192).next = 0) := by decide
theorem ia_cases (x : Im) (t : Nat) : ((x.ia t : Nat) : Int) = 0 ∨ ((x.ia t : Nat) : Int) = 64 ∨ ((x.ia t : Nat) : Int) = 128 ∨ ((x.ia t : Nat) : Int) = 192 := by
  unfold Im.ia
  have : (t - 1) % x.i % 4 < 4 := Nat.mod_lt _ (by decide)
  omega
theorem mk_err {g s i j t : Nat} (hm : mayG g s i j = true) (h : 1 ≤ t) : getErr (mkB g s i j ((mkIm g s i j).ib t)) ((mkIm g s i j).ia t) = 0 := by
  rw [mk_tab hm h]
  have z := zero_get
  have r := root_get
  rcases ia_cases (mkIm g s i j) t with e | e | e | e <;> rw [e] <;> split
  · exact r.1
  · exact z.1
  · exact r.2.1
  · exact z.2.1
  · exact r.2.2.1
  · exact z.2.2.1
  · exact r.2.2.2
  · exact z.2.2.2
theorem mk_ino1 {g s i j : Nat} (hm : mayG g s i j = true) : (mkIm g s i j).ino 1 = getIno rootZ 0 := by
  obtain ⟨h1, h2, h3, h4, h5, h6, h7, h8, h9, h10, h11⟩ := mayN hm
  have hn : 1 ≤ (mkIm g s i j).ni := by show 1 ≤ g * i; exact Nat.mul_le_mul h1 (show 1 ≤ i by omega)
  unfold Im.ino
  rw [if_pos ⟨Nat.le_refl _, hn⟩]
  show getIno (mkB g s i j ((mkIm g s i j).ib 1)) _ = _
  rw [mk_tab hm (Nat.le_refl _), if_pos ⟨by omega, by omega⟩]
  have : (mkIm g s i j).ia 1 = 0 := by show (1 - 1) % i % 4 * 64 = 0; rw [Nat.sub_self, Nat.zero_mod]
  rw [this]; rfl
theorem mk_ino {g s i j t : Nat} (hm : mayG g s i j = true) (ht : t ≠ 1) : ((mkIm g s i j).ino t).kind = 0 ∧ ((mkIm g s i j).ino t).next = 0 := by
  obtain ⟨h1, h2, h3, h4, h5, h6, h7, h8, h9, h10, h11⟩ := mayN hm
  unfold Im.ino
  by_cases c : 1 ≤ t ∧ t ≤ (mkIm g s i j).ni
  rotate_left
  · rw [if_neg c]; exact ⟨rfl, rfl⟩
  rw [if_pos c]
  show (getIno (mkB g s i j ((mkIm g s i j).ib t)) _).kind = 0 ∧ (getIno (mkB g s i j ((mkIm g s i j).ib t)) _).next = 0
  rw [mk_tab hm c.1]
  have z := zero_free
  have r := root_free
  by_cases c4 : t ≤ 4 ∧ t ≤ i
  · rw [if_pos c4]
    have e : (mkIm g s i j).ia t = (t - 1) * 64 := by show (t - 1) % i % 4 * 64 = _; rw [Nat.mod_eq_of_lt (show t - 1 < i by omega), Nat.mod_eq_of_lt (by omega)]
    rw [e]
    have : t = 2 ∨ t = 3 ∨ t = 4 := by omega
    rcases this with rfl | rfl | rfl
    · exact r.1
    · exact r.2.1
    · exact r.2.2
  · rw [if_neg c4]
    rcases ia_cases (mkIm g s i j) t with e | e | e | e <;> rw [e]
    · exact z.1
    · exact z.2.1
    · exact z.2.2.1
    · exact z.2.2.2
/-- the empty image is a file system, of which nothing is in use -/
theorem mk_good {g s i j : Nat} (hm : mayG g s i j = true) : ∃ m u, Im.Good (mkIm g s i j) m (fun _ => 0) u := by
  obtain ⟨h1, h2, h3, h4, h5, h6, h7, h8, h9, h10, h11⟩ := mayN hm
  obtain ⟨hE, e4, e5, e6, e7, e8⟩ := mk_heads hm
  obtain ⟨rk, rl, rs, rn, rp⟩ := root_ino
  have hi1 := mk_ino1 hm
  have hni : 1 ≤ (mkIm g s i j).ni := by show 1 ≤ g * i; exact Nat.mul_le_mul h1 (show 1 ≤ i by omega)
  have hu : updN (fun _ => ([] : List Nat)) 1 [] = fun _ => [] := by funext b; unfold updN; split <;> rfl
  have hcnt : ∀ t n, Im.cnt (fun _ => ([] : List Nat)) t n = 0 := fun t n => by
    induction n with
    | zero => rfl
    | succ n ih => rw [Im.cnt, ih]; rfl
  have hreach : (mkIm g s i j).reach (fun _ => []) = updN (fun _ => false) 1 true := by
    unfold Im.reach
    rw [Im.popF, List.foldl_nil]
    cases (mkIm g s i j).ni with
    | zero => rfl
    | succ n => rfl
  refine ⟨fun _ => false, fun _ => [], ⟨?_, ?_, ?_, ?_, ?_, ?_, ?_, ?_, ?_, ?_, ?_, ?_, ?_⟩⟩
  · unfold Im.ck1
    show (decide (0 < 2 + j + g * s) && (readE (mkB g s i j 0) == 0 && (((2 + j + g * s : Nat) : Int) == nBl (hd (mkB g s i j 0) 4) (hd (mkB g s i j 0) 5) (hd (mkB g s i j 0) 6) (hd (mkB g s i j 0) 7)))) = true
    rw [hE, e4, e5, e6, e7]
    unfold nBl
    rw [hm, if_pos rfl]
    simp; omega
  · unfold Im.ck2
    show rdOk g s i j (mkB g s i j 1) = true
    rw [mkB_1 h8]
    exact (desc_back (descOk0 hm)).1
  · intro k hk
    unfold Im.ck3
    show (Im.allS (bt (mkB g s i j ((mkIm g s i j).st k))) 0 (2 + i / 4) && (Im.allS (bt (mkB g s i j ((mkIm g s i j).st k))) s 2048 && Im.allS (bt (mkB g s i j ((mkIm g s i j).st k + 1))) i 2048)) = true
    rw [mk_st hm, mk_st1 hm, Bool.and_eq_true, Bool.and_eq_true, Im.allS_iff, Im.allS_iff, Im.allS_iff]
    refine ⟨fun q a b => ?_, fun q a b => ?_, fun q a b => ?_⟩ <;> rw [bt_bZ] <;> unfold mapB <;> simp <;> omega
  · intro t ht1 ht2
    unfold Im.ck4
    rw [show getErr ((mkIm g s i j).L ((mkIm g s i j).ib t)) ((mkIm g s i j).ia t) = 0 from mk_err hm ht1]
    have hu : (mkIm g s i j).used t = decide (t = 1) := by
      unfold Im.used
      show bt (mkB g s i j ((mkIm g s i j).st ((t - 1) / i) + 1)) ((t - 1) % i) = _
      rw [mk_st1 hm, bt_bZ]
      have hr : (t - 1) % i < i := Nat.mod_lt _ (by omega)
      unfold mapB
      by_cases e : t = 1
      · subst e; simp
      · have : ¬ (t - 1) % i < (if (t - 1) / i = 0 then 1 else 0) := by
          split
          · rename_i e0
            have hlt : t - 1 < i := by
              rcases Nat.lt_or_ge (t - 1) i with h | h
              · exact h
              · have := Nat.div_pos h (by omega); omega
            rw [Nat.mod_eq_of_lt hlt]; omega
          · omega
        rw [decide_eq_false this, decide_eq_false (show ¬ i ≤ (t - 1) % i by omega), decide_eq_false e]; rfl
    rw [hu]
    by_cases e : t = 1
    · subst e; rw [hi1, rk]; rfl
    · rw [(mk_ino hm e).1]; simp [e]
  · rw [hi1]; exact rk
  · unfold Im.orph
    rw [Im.orpF, if_pos rfl]
  · intro t ht1 ht2
    unfold Im.ck6
    by_cases e : t = 1
    · subst e; rw [hi1, rn, rk]; rfl
    · rw [(mk_ino hm e).1, (mk_ino hm e).2]; rfl
  · unfold Im.trees
    refine foldO_id fun t ht => ?_
    unfold Im.treeF
    by_cases e : t = 0
    · subst e
      rw [show 0 + 1 = 1 from rfl, hi1, if_neg (by rw [rk]; decide)]
      refine foldO_id fun q hq => ?_
      rw [(allZ_iff _ _).1 rp q hq]
      exact Im.ptrF_zero _ _ _ _ _ _
    · rw [if_pos (mk_ino hm (by omega)).1]
  · intro k hk
    unfold Im.ck8
    rw [allB_iff]
    intro d hd
    show (bt (mkB g s i j ((mkIm g s i j).st k)) (2 + i / 4 + d) == false) = true
    replace hd : d < s - (2 + i / 4) := hd
    rw [mk_st hm, bt_bZ]
    unfold mapB
    simp; omega
  · unfold Im.dirs
    have key : ∀ n, n ≤ (mkIm g s i j).ni → foldO (fun t u => if ((mkIm g s i j).ino (t + 1)).kind = 2 then ((mkIm g s i j).dirF (t + 1)).map (fun r => updN u (t + 1) r.2) else some u) n (fun _ => []) = some fun _ => [] := fun n hn => by
      refine foldO_id fun t ht => ?_
      by_cases e : t = 0
      · subst e
        rw [show 0 + 1 = 1 from rfl, if_pos (by rw [hi1]; exact rk)]
        have : (mkIm g s i j).dirF 1 = some ([], []) := by
          unfold Im.dirF
          rw [hi1, rs]; rfl
        rw [this]
        show some (updN (fun _ => []) 1 []) = _
        rw [hu]
      · rw [if_neg (by rw [(mk_ino hm (show t + 1 ≠ 1 by omega)).1]; decide)]
    exact key _ (Nat.le_refl _)
  · intro t ht1 ht2
    unfold Im.ck10
    rw [hcnt]
    by_cases e : t = 1
    · rw [if_pos e]; rfl
    · rw [if_neg e, if_neg (by rw [(mk_ino hm e).1]; decide), if_neg (by rw [(mk_ino hm e).1]; decide)]
  · intro t ht
    unfold Im.ck11
    rw [hreach]
    by_cases e : t = 1
    · subst e; simp [updN]
    · rw [(mk_ino hm e).1]; rfl
  · intro k hk
    obtain ⟨_, _, hr⟩ := desc_back (descOk0 hm)
    obtain ⟨b1, b2, b3⟩ := hr k hk
    have nd : nDa g s i j = (s : Int) - 2 - ((i / 4 : Nat) : Int) := by unfold nDa; rw [hm, if_pos rfl]; omega
    unfold Im.ck12 Im.free Im.freeI
    show ((s : Int) - (cntB (bt (mkB g s i j ((mkIm g s i j).st k))) s : Nat) == rB (mkB g s i j 1) k && ((i : Int) - (cntB (bt (mkB g s i j ((mkIm g s i j).st k + 1))) i : Nat) == rI (mkB g s i j 1) k && (((mkIm g s i j).nDir k : Nat) : Int) == rD (mkB g s i j 1) k)) = true
    rw [mk_st hm, mk_st1 hm, mkB_1 h8, b1, b2, b3]
    rw [cntB_low (u := 2 + i / 4) (by omega) (fun q hq => by rw [bt_bZ]; unfold mapB; simp; omega)]
    rw [cntB_low (u := if k = 0 then 1 else 0) (by split <;> omega) (fun q hq => by rw [bt_bZ]; unfold mapB; simp; omega)]
    have hnd : (mkIm g s i j).nDir k = if k = 0 then 1 else 0 := by
      unfold Im.nDir
      refine cntB_low (by show (if k = 0 then 1 else 0) ≤ i; split <;> omega) fun q hq => ?_
      replace hq : q < i := hq
      show (((mkIm g s i j).ino (k * i + q + 1)).kind == 2) = _
      by_cases e : k * i + q + 1 = 1
      · rw [e, hi1, rk]
        have hk0 : k = 0 := by
          rcases Nat.eq_zero_or_pos k with h | h
          · exact h
          · have := Nat.mul_le_mul h (show 1 ≤ i by omega); omega
        subst hk0
        simp; omega
      · rw [(mk_ino hm e).1]
        have : ¬ q < (if k = 0 then 1 else 0) := by
          split
          · rename_i h0; subst h0; omega
          · omega
        simp [this]
    rw [hnd]
    unfold dkB dkI dkD
    rw [nd]
    by_cases e : k = 0
    · simp only [e, if_true]; simp; omega
    · simp only [e, if_false]; simp; omega
theorem mk_exam {g s i j : Nat} (hm : mayG g s i j = true) : (Im.of (mkB g s i j) (2 + j + g * s)).exam = (0, fun _ => 0) := by
  rw [mk_of hm]
  obtain ⟨m, u, h⟩ := mk_good hm
  exact Im.exam_good h
end Go.Proofs.YtnbmmhoofilmfaaDoor

/- MkfsFree. -/
namespace Go.Proofs.YtnbmmhoofilmfaaDoor
open Go.RowKit
set_option linter.unusedVariables false

/-- of how many groups the first block lies ahead of a block -/
def gB (j s b : Nat) : Nat := (b - (2 + j) + s - 1) / s
theorem gB_step {x : Im} (hx : x.Ok) {v : Nat} (hv : v < x.n) {K A B : Int} (h : WhatIs x.g x.s x.i x.j v K A B) : gB x.j x.s (v + 1) = gB x.j x.s v + if K = 4 then 1 else 0 := by
  obtain ⟨h1, h2, h3, h4, h5, h6, h7, h8, h9, h10, h11⟩ := mayN hx.may
  unfold gB
  rcases what_cases hx hv h with ⟨a1, a2, a3⟩ | ⟨γ, r, hγ, hr, rfl, _, _, hK⟩
  · rw [if_neg (by omega), show v + 1 - (2 + x.j) = 0 by omega, show v - (2 + x.j) = 0 by omega]; rfl
  · have e1 : x.st γ + r + 1 - (2 + x.j) + x.s - 1 = r + x.s * (γ + 1) := by unfold Im.st; rw [Nat.mul_add, Nat.mul_comm x.s γ]; omega
    rw [e1, Nat.add_mul_div_left _ _ (by omega), Nat.div_eq_of_lt hr, Nat.zero_add]
    by_cases h0 : r = 0
    · subst h0
      have e2 : x.st γ + 0 - (2 + x.j) + x.s - 1 = (x.s - 1) + x.s * γ := by unfold Im.st; rw [Nat.mul_comm x.s γ]; omega
      rw [e2, Nat.add_mul_div_left _ _ (by omega), Nat.div_eq_of_lt (by omega), if_pos (by rw [hK, if_pos rfl])]; omega
    · have e2 : x.st γ + r - (2 + x.j) + x.s - 1 = (r - 1) + x.s * (γ + 1) := by unfold Im.st; rw [Nat.mul_add, Nat.mul_comm x.s γ]; omega
      rw [e2, Nat.add_mul_div_left _ _ (by omega), Nat.div_eq_of_lt (by omega), if_neg (by rw [hK, if_neg h0]; split; decide; split <;> decide)]; omega
theorem gB_end {j s g : Nat} (hs : 1 ≤ s) : gB j s (2 + j + g * s) = g := by
  unfold gB
  rw [show 2 + j + g * s - (2 + j) + s - 1 = (s - 1) + s * g by rw [Nat.mul_comm s g]; omega, Nat.add_mul_div_left _ _ (by omega), Nat.div_eq_of_lt (by omega), Nat.zero_add]
theorem gB_le {j s g b : Nat} (hs : 1 ≤ s) (hb : b ≤ 2 + j + g * s) : gB j s b ≤ g := by
  rw [← gB_end (j := j) (g := g) hs]
  unfold gB
  exact Nat.div_le_div_right (by omega)
/-- of the first block of a group: how many bits are clear -/
theorem free_at {g s i j v : Nat} (hm : mayG g s i j = true) (hx : (mkIm g s i j).Ok) (hv : v < 2 + j + g * s) {A B : Int} (h : WhatIs g s i j v 4 A B) : (s : Int) - (cntB (bt (mkB g s i j v)) s : Nat) = nDa g s i j := by
  obtain ⟨h1, h2, h3, h4, h5, h6, h7, h8, h9, h10, h11⟩ := mayN hm
  rcases what_cases (x := mkIm g s i j) hx hv h with ⟨_, _, h3⟩ | ⟨γ, r, hγ, hr, rfl, _, _, hK⟩
  · omega
  · have h0 : r = 0 := by
      by_cases h0 : r = 0
      · exact h0
      · rw [if_neg h0] at hK
        split at hK
        · cases hK
        · split at hK <;> cases hK
    subst h0
    rw [Nat.add_zero, mk_st hm, cntB_low (u := 2 + i / 4) (by omega) (fun q hq => by rw [bt_bZ]; unfold mapB; simp; omega)]
    unfold nDa; rw [hm, if_pos rfl]; omega
theorem mk_ok {g s i j : Nat} (hm : mayG g s i j = true) : (mkIm g s i j).Ok := ⟨fun b => mkB_byt _ _ _ _ b, hm, rfl, by show 0 < _; decide⟩
/-- what stands while the owners are gone over -/
structure FwS (w : World) (g s i j q n og : Nat) (W : World) : Prop where
  ge : At W w.heap.size 23 (gcells g s i j)
  im : RArr W q 32 256 n (fun b => Ks .u8 256 (mkB g s i j b))
  ow : RArr W og 3 1 n (ownF fun _ => 0)
  bel : Below w.heap.size w W
theorem FwS.below {w W W' : World} {g s i j q n og : Nat} (h : FwS w g s i j q n og W) (hb : Below W.heap.size W W') : FwS w g s i j q n og W' :=
  ⟨h.ge.below hb h.ge.lt, h.im.below hb, h.ow.below hb, h.bel.trans (hb.mono h.bel.size)⟩
theorem FwS.drew {w W : World} {g s i j q n og : Nat} (h : FwS w g s i j q n og W) (k : Nat) : FwS w g s i j q n og { W with drawn := k } := h.below ⟨rfl, rfl, rfl, Nat.le_refl _, fun _ _ => rfl⟩
set_option maxRecDepth 100000 in
set_option maxHeartbeats 8000000 in
theorem mkfsFree_walk (G S I J : Int) (w : World) (hT : Tab w) :
    Calls Tryd.prog 6 #[gval G S I J] w fun e w' => e = .returned (.bool true) ∧ Below w.heap.size w w' := by
  have hs0 := At.new w 23 (gcells G S I J)
  have HL0 : Hid (Below w.heap.size w (w.alloc (.cells (gcells G S I J) 23))) := (Below.refl _ _).alloc (Nat.le_refl _) _
  have HT0 := Lib.hid (hT.alloc (.cells (gcells G S I J) 23))
  clear hT
  go_enter Tryd.func6, Tryd.ntmps6
  go_wp2_with fail
  refine (awake21 _ HT0.out).mono ?_
  rintro e w1 ⟨rfl, hb1⟩
  have hs1 := hs0.below hb1 hs0.lt
  have HL1 := Lib.hid (HL0.out.trans (hb1.mono HL0.out.size))
  have HT1 := Lib.hid (HT0.out.below hb1 (Nat.le_refl _))
  clear hs0 HL0 HT0 hb1
  go_wp2_with (first | (refine wp_loadAtG rfl 23 (.tmp 1) rfl _ _ _ rfl hs1 Tryd.underlying23 rfl (by kernel_rfl) ?_))
  cases hm : mayG G S I J with
  | false =>
    refine (make_no G S I J hm _).mono ?_
    rintro e w2 ⟨rfl, hb2⟩
    have hs2 := hs1.below hb2 hs1.lt
    have HL2 := Lib.hid (HL1.out.trans (hb2.mono HL1.out.size))
    have HM := Lib.hid hm
    clear hm hs1 HL1 HT1 hb2
    go_wp2_with (first | (refine wp_loadAtG rfl 23 (.tmp 1) rfl _ _ _ rfl hs2 Tryd.underlying23 rfl (by kernel_rfl) ?_))
    refine (geoMay_any G S I J _).mono ?_
    rintro e w3 ⟨rfl, hb3⟩
    rw [HM.out]
    have HL3 := Lib.hid (HL2.out.trans (hb3.mono HL2.out.size))
    clear hs2 HL2 hb3
    go_wp2_with fail
    go_ret
    exact ⟨rfl, HL3.out⟩
  | true =>
  obtain ⟨a1, a2, a3, a4, a5, a6, a7, a8, a9, a10, a11⟩ := (mayG_iff G S I J).1 hm
  obtain ⟨g, rfl⟩ : ∃ g : Nat, G = (g : Int) := ⟨G.toNat, by omega⟩
  obtain ⟨s, rfl⟩ : ∃ s : Nat, S = (s : Int) := ⟨S.toNat, by omega⟩
  obtain ⟨i, rfl⟩ : ∃ i : Nat, I = (i : Int) := ⟨I.toNat, by omega⟩
  obtain ⟨j, rfl⟩ : ∃ j : Nat, J = (j : Int) := ⟨J.toNat, by omega⟩
  clear a1 a2 a3 a4 a5 a6 a7 a8 a9 a10 a11
  have HM := Lib.hid hm
  refine (make_yes g s i j hm _ HT1.out).mono ?_
  rintro e w2 ⟨q, rfl, hi2⟩
  obtain ⟨b1, b2, b3, b4, b5, b6, b7, b8, b9, b10, b11⟩ := mayN hm
  obtain ⟨n, hn⟩ : ∃ n, n = 2 + j + g * s := ⟨_, rfl⟩
  have hn48 : n ≤ 2048 := by omega
  have HN := Lib.hid hn
  have hs2 := hs1.below hi2.bel hs1.lt
  have HL2 := Lib.hid (HL1.out.trans (hi2.bel.mono HL1.out.size))
  have HT2 := Lib.hid (HT1.out.below hi2.bel (Nat.le_refl _))
  have HI : Hid (RArr w2 q 32 256 n (fun b => Ks .u8 256 (mkB g s i j b))) := by rw [hn]; exact hi2.a
  have HV : Hid (ImV w2 (.slice (some ⟨q, 0, none⟩) n n) n (mkB g s i j)) := ⟨_, _, rfl, fun _ => ⟨q, 0, rfl, HI.out.lt, HI.out.seg⟩⟩
  have HEX : Hid ((Im.of (mkB g s i j) n).exam = (0, fun _ => 0)) := by show _ = _; rw [hn]; exact mk_exam hm
  have HS2 := Lib.hid hs2
  rw [← hn]
  clear hn hm hs1 HL1 HT1 hi2 hs2
  go_wp2_with fail
  refine (ckOwners_any _ n (mkB g s i j) (fun b => mkB_byt _ _ _ _ b) (by omega) _ HT2.out HV.out).mono ?_
  rintro e w3 ⟨hb3, hp⟩
  rcases hp with ⟨hne, _⟩ | ⟨_, _, og, rfl, hog, hR⟩
  · exact absurd (by rw [HEX.out]) hne
  rw [HEX.out] at hR
  have hs3 := HS2.out.below hb3 HS2.out.lt
  have ST3 : Hid (FwS w g s i j q n og w3) := ⟨hs3, HI.out.below hb3, hR, HL2.out.trans (hb3.mono HL2.out.size)⟩
  clear hR hs3 hb3 hog HI HV HEX HS2 HL2 HT2
  have q0 : ((n : Int) != (n : Int)) = false := by simp
  have HNV : Hid (∀ v : Nat, v < n → ∀ K A B, WhatIs g s i j v K A B → (K = 4 → (s : Int) - (cntB (bt (mkB g s i j v)) s : Nat) = nDa g s i j) ∧ gB j s (v + 1) = gB j s v + if K = 4 then 1 else 0) := fun v hv K A B h => ⟨fun e => by subst e; exact free_at HM.out (mk_ok HM.out) (by rw [← HN.out]; exact hv) h, gB_step (x := mkIm g s i j) (mk_ok HM.out) (by show v < 2 + j + g * s; rw [← HN.out]; exact hv) h⟩
  have HGE : Hid (gB j s n = g ∧ ∀ b, b ≤ n → gB j s b ≤ g) := by rw [HN.out]; exact ⟨gB_end (by omega), fun b hb => gB_le (by omega) hb⟩
  have hG0 : gB j s 0 = 0 := by unfold gB; rw [Nat.zero_sub, Nat.zero_add]; exact Nat.div_eq_of_lt (by omega)
  obtain ⟨D, hD⟩ : ∃ D, D = nDa g s i j := ⟨_, rfl⟩
  have hD0 : 0 ≤ D ∧ D ≤ 512 := by rw [hD]; unfold nDa; rw [HM.out, if_pos rfl]; omega
  rw [← hD] at HNV
  have HD := Lib.hid hD
  have HG0 := Lib.hid hG0
  clear hD hG0 b11 HN HM
  go_wp2_with fail
  go_loopw [6, 7, 8, 9, 10] (fun u6 u7 _ _ _ wr => ∃ b : Nat, b ≤ n ∧ u6 = .int .i64 ((gB j s b : Nat) * D) ∧ u7 = .int .i64 (b : Int) ∧ FwS w g s i j q n og wr) (fun _ u7 _ _ _ _ => n - (intOf u7).toNat)
  case atStart => exact ⟨0, by omega, by rw [HG0.out]; simp, rfl, ST3.out⟩
  case round =>
    clear ST3
    obtain ⟨b, hb, rfl, rfl, st⟩ := hrel
    have hgb := HGE.out.2 b hb
    obtain ⟨N, hN⟩ : ∃ N, N = ((gB j s b : Nat) : Int) * D := ⟨_, rfl⟩
    have hN9 : 0 ≤ N ∧ N ≤ 4096 := by
      rw [hN]
      have h1 : 0 ≤ ((gB j s b : Nat) : Int) * D := Int.mul_nonneg (by omega) hD0.1
      have h2 : ((gB j s b : Nat) : Int) * D ≤ 4 * 512 := Int.mul_le_mul (by omega) hD0.2 hD0.1 (by decide)
      omega
    rw [← hN]
    have HNN := Lib.hid hN
    clear hN hgb
    by_cases hlt : b < n
    · have hlt' : (b : Int) < (n : Int) := by omega
      have hge := st.ge
      go_wp2_with (first | (refine wp_loadAtG rfl 23 (.tmp 1) rfl _ _ _ rfl hge Tryd.underlying23 rfl (by kernel_rfl) ?_))
      refine (what2_any g s i j b (by omega) (by omega) wr).mono ?_
      rintro e w4 ⟨K, A, B, rfl, hwi, hb4⟩
      obtain ⟨hv1, hv2⟩ := HNV.out b hlt K A B hwi
      have st4 := st.below hb4
      have hc := st4.ow.int1 (i := b) hlt (v := .int .i64 0) rfl
      have ST := Lib.hid st4
      have HV1 := Lib.hid hv1
      have HV2 := Lib.hid hv2
      clear st hge hwi hb4 hv1 hv2 st4
      by_cases hK : K = 4
      · have q1 : (K == 4) = true := by simp [hK]
        have HV := Lib.hid (HV1.out hK)
        have HB : Hid (gB j s (b + 1) = gB j s b + 1) := by show _ = _; rw [HV2.out, if_pos hK]
        clear hK HV1 HV2
        go_wp2_with fail
        refine wp_region_S (FwS w g s i j q n og) (by kernel_rfl) (by kernel_rfl) (ST.out.drew _) ?_
        clear ST hc
        intro hne
        have hc1 : ∀ y : InW (FwS w g s i j q n og), y.W.cell? ⟨w.heap.size, 1, none⟩ = some (.int .i64 (s : Int)) := fun y => y.h.ge.cell (i := 1) rfl
        repeat (first | go_big_quiet_skip | (go_big_quiet_want; go_big_quiet_op; go_big_quiet_on))
        refine q_load rfl 32 (.tmp 56) rfl q (b * 256) rfl (bkF (mkB g s i j) b) _ (fun W h => by
          have := h.im.seg.range b hlt
          rwa [Nat.zero_add] at this) Tryd.underlying32 rfl (by rw [bkF_len]; exact info_block) ?_
        refine wpQuiet_frame (by simp only [Act.put, List.setIfInBounds_toArray, List.set_cons_succ, List.set_cons_zero]; exact rfl) ?_
        repeat (first | go_big_quiet_skip | (go_big_quiet_want; go_big_quiet_op; go_big_quiet_on))
        go_big_quiet_want
        go_big_quiet_op
        refine ⟨_, fun y => q_call y (fun W hW => (bitCount_z (mkB_byt g s i j b) (s : Int) s rfl (by omega) W).mono fun e w' h => ⟨h.1, hW.below h.2⟩), ?_⟩
        go_big_quiet_on
        have hcl := cntB_le (bt (mkB g s i j b)) s
        repeat (first | go_big_quiet_skip | (go_big_quiet_want; go_big_quiet_op; go_big_quiet_on))
        refine wpQuiet_nil ?_
        intro w5 h5
        have ST := Lib.hid h5.out
        have HS : Hid (N + (s : Int) - ((cntB (bt (mkB g s i j b)) s : Nat) : Int) = ((gB j s (b + 1) : Nat) : Int) * D) := by
          show _ = _
          rw [HB.out, Int.natCast_add, Int.add_mul, ← HNN.out, ← HV.out]
          omega
        clear h5 hne hc1
        go_wp2_with fail
        go_roundw
        case rel => exact ⟨b + 1, by omega, by rw [← HS.out], by go_num, ST.out⟩
        case measure => simp [intOf]; omega
      · have q1 : (K == 4) = false := by simp [hK]
        have HB : Hid (gB j s (b + 1) = gB j s b) := by show _ = _; rw [HV2.out, if_neg hK]; rfl
        clear hK HV1 HV2
        go_wp2_with fail
        go_roundw
        case rel => exact ⟨b + 1, by omega, by rw [HB.out, HNN.out], by go_num, ST.out⟩
        case measure => simp [intOf]; omega
    · obtain rfl : b = n := by omega
      have ST := Lib.hid st
      clear st hlt
      go_wp2_with fail
      refine wp_region_S (FwS w g s i j q b og) (by kernel_rfl) (by kernel_rfl) (ST.out.drew _) ?_
      clear ST
      intro hne
      have hc0 : ∀ y : InW (FwS w g s i j q b og), y.W.cell? ⟨w.heap.size, 0, none⟩ = some (.int .i64 (g : Int)) := fun y => y.h.ge.cell (i := 0) rfl
      have hm9 : 0 ≤ (g : Int) * D ∧ (g : Int) * D ≤ 4096 := by
        have h1 : 0 ≤ (g : Int) * D := Int.mul_nonneg (by omega) hD0.1
        have h2 : (g : Int) * D ≤ 4 * 512 := Int.mul_le_mul (by omega) hD0.2 hD0.1 (by decide)
        omega
      repeat (first | go_big_quiet_skip | (go_big_quiet_want; go_big_quiet_op; go_big_quiet_on))
      refine q_load rfl 23 (.tmp 1) rfl _ _ rfl (gcells g s i j).toList _ (fun W h => h.ge.range) Tryd.underlying23 rfl (by kernel_rfl) ?_
      refine wpQuiet_frame (by simp only [Act.put, List.setIfInBounds_toArray, List.set_cons_succ, List.set_cons_zero]; exact rfl) ?_
      go_big_quiet_want
      go_big_quiet_op
      refine ⟨_, fun y => q_call y (fun W hW => (geoData_any g s i j W).mono fun e w' h => ⟨h.1.trans (by rw [← HD.out]), hW.below h.2⟩), ?_⟩
      go_big_quiet_on
      repeat (first | go_big_quiet_skip | (go_big_quiet_want; go_big_quiet_op; go_big_quiet_on))
      refine wpQuiet_nil ?_
      intro w5 h5
      have ST := Lib.hid h5.out
      have HQ : Hid ((N == (g : Int) * D) = true) := by show _ = _; rw [beq_iff_eq, HNN.out, HGE.out.1]
      clear h5 hne hc0
      go_wp2_with fail
      go_ret
      exact ⟨by rw [HQ.out]; rfl, ST.out.bel⟩
end Go.Proofs.YtnbmmhoofilmfaaDoor
