/- Texts of this claim, merged by a program (a claim may have 60 files): Pk12, Pk13, Pk14. -/
import Derived.Test.YtnbmmhoofilmfaaDoorK26
import Derived.Test.YtnbmmhoofilmfaaDoorK11
import Derived.Test.YtnbmmhoofilmfaaDoorK22
/- What is packed is read: the plain law. -/
namespace Go.Proofs.YtnbmmhoofilmfaaDoor
open Go.RowKit
set_option linter.unusedVariables false

theorem sumR_wds {v : Int} (hv : 0 ≤ v ∧ v < 4294967296) : Wds (sumR v) := fun k => by unfold sumR; split <;> omega
theorem seqB_bd {s : Int} (h : seqB s = true) : 1 ≤ s ∧ s ≤ 2147483648 := of_decide_eq_true h
theorem wds_eq {z l : Nat → Int} (hl : Wds l) (h : z = wz l) (k : Nat) : wd z k = l k := by rw [h]; exact wd_wz hl k
theorem nz_wds : Wds nz := nz_wds'
theorem desc_law (s : Int) (n : Nat) (tb : Nat → Int) (te : Nat → Bool) (htb : Wds tb) (h : jdOk s n tb = true) : descRd (jdZ s n tb te) = true ∧ rowsN (jdZ s n tb te) = n ∧ (∀ i, i < n → descT (jdZ s n tb te) i = tb i ∧ jdE (jdZ s n tb te) i = te i) ∧ kindOf (jdZ s n tb te) = 1 ∧ seqOf (jdZ s n tb te) = s ∧ wd (jdZ s n tb te) 2 = s := by
  have h' := h
  unfold jdOk at h'
  rw [Bool.and_eq_true, Bool.and_eq_true, decide_eq_true_eq] at h'
  obtain ⟨hs, hn, hr⟩ := h'
  have hsb := seqB_bd hs
  have hz : jdZ s n tb te = wz (jw 1 s n (tagR tb te n)) := by unfold jdZ; rw [h]; rfl
  have hW : Wds (jw 1 s n (tagR tb te n)) := jw_wds (by decide) (by omega) (by omega) (fun k => by
    unfold tagR
    split
    · split
      · exact htb _
      · unfold bit; split <;> decide
    · decide)
  have e := wds_eq hW hz
  have e0 : wd (jdZ s n tb te) 0 = 1280199249 := e 0
  have e1 : wd (jdZ s n tb te) 1 = 1 := e 1
  have e2 : wd (jdZ s n tb te) 2 = s := e 2
  have e3 : wd (jdZ s n tb te) 3 = n := e 3
  have hk : kindB (jdZ s n tb te) = true := by unfold kindB; rw [e0, e1, e2, hs]; rfl
  have hk1 : kindOf (jdZ s n tb te) = 1 := by unfold kindOf; rw [hk, e1]; rfl
  have hN : rowsN (jdZ s n tb te) = n := by unfold rowsN; rw [e3]; omega
  have hT : ∀ i, i < n → wd (jdZ s n tb te) (4 + 2 * i) = tb i := fun i hi => by
    rw [e]; unfold jw tagR
    rw [if_neg (by omega), if_neg (by omega), if_neg (by omega), if_neg (by omega), if_pos (by omega), if_pos (by omega)]
    congr 1; omega
  have hE : ∀ i, i < n → wd (jdZ s n tb te) (5 + 2 * i) = bit (te i) := fun i hi => by
    rw [e]; unfold jw tagR
    rw [if_neg (by omega), if_neg (by omega), if_neg (by omega), if_neg (by omega), if_pos (by omega), if_neg (by omega)]
    congr 2; omega
  have hd : descRd (jdZ s n tb te) = true := by
    unfold descRd
    rw [hk1, e3, hN, decide_eq_true (show 1 ≤ (n : Int) ∧ (n : Int) ≤ 30 by omega)]
    have hB : descB (jdZ s n tb te) n = true := (descB_iff _ _).2 ⟨fun i hi => by rw [hE i hi]; unfold bit; split <;> decide, (riseB_congr (k1 := descT (jdZ s n tb te)) (k2 := tb) (fun i hi => hT i hi)).trans hr⟩
    rw [hB]
    simp only [beq_self_eq_true, Bool.true_and]
    rw [allZ_iff]
    intro j hj
    rw [e]
    unfold jw tagR
    rw [if_neg (by omega), if_neg (by omega), if_neg (by omega), if_neg (by omega), if_neg (by omega)]
  refine ⟨hd, hN, fun i hi => ⟨hT i hi, ?_⟩, hk1, by unfold seqOf; rw [hk, e2]; rfl, e2⟩
  show (wd (jdZ s n tb te) (5 + 2 * i) == 1) = te i
  rw [hE i hi]; unfold bit; cases te i <;> rfl
/-- what a commit block that was written tells -/
theorem commit_law (s n v : Int) (hv : 0 ≤ v ∧ v < 4294967296) (h : commitOk s n = true) : commitV (commitZ s n v) = .tuple #[.int .u32 s, .int .i64 n, .int .u32 v, .int .i64 0] ∧ kindOf (commitZ s n v) = 2 ∧ seqOf (commitZ s n v) = s := by
  have h' := h
  unfold commitOk at h'
  rw [Bool.and_eq_true, decide_eq_true_eq] at h'
  obtain ⟨hs, hn⟩ := h'
  have hsb := seqB_bd hs
  have hz : commitZ s n v = wz (jw 2 s n (sumR v)) := by unfold commitZ; rw [h]; rfl
  have hW : Wds (jw 2 s n (sumR v)) := jw_wds (by decide) (by omega) (by omega) (sumR_wds hv)
  have e := wds_eq hW hz
  have e0 : wd (commitZ s n v) 0 = 1280199249 := e 0
  have e1 : wd (commitZ s n v) 1 = 2 := e 1
  have e2 : wd (commitZ s n v) 2 = s := e 2
  have e3 : wd (commitZ s n v) 3 = n := e 3
  have e4 : wd (commitZ s n v) 4 = v := e 4
  have hk : kindB (commitZ s n v) = true := by unfold kindB; rw [e0, e1, e2, hs]; rfl
  have hk2 : kindOf (commitZ s n v) = 2 := by unfold kindOf; rw [hk, e1]; rfl
  have hq : seqOf (commitZ s n v) = s := by unfold seqOf; rw [hk, e2]; rfl
  refine ⟨?_, hk2, hq⟩
  have hr : commitRd (commitZ s n v) = true := by
    unfold commitRd
    rw [hk2, e3, decide_eq_true hn]
    simp only [beq_self_eq_true, Bool.true_and]
    rw [allZ_iff]
    intro j _
    rw [e]
    unfold jw sumR
    rw [if_neg (by omega), if_neg (by omega), if_neg (by omega), if_neg (by omega), if_neg (by omega)]
  unfold commitV
  rw [hr, hq, e3, e4]
  rfl
theorem wd_esc {z : Nat → Int} (h : escB z = true) : wd (escZ z) 0 = 0 := by
  unfold escZ; rw [h, if_pos rfl]
  exact g32_over z 0 0 (by decide) (by decide)
theorem escB_esc (z : Nat → Int) : escB (escZ z) = false := by
  cases h : escB z with
  | true => unfold escB; rw [wd_esc h]; rfl
  | false => unfold escZ; rw [h]; exact h
theorem escZ_esc (z : Nat → Int) : escZ (escZ z) = escZ z := by
  rw [escZ, escB_esc]; rfl
theorem kind_esc (z : Nat → Int) : kindOf (escZ z) = 0 ∧ seqOf (escZ z) = 0 := by
  have : kindB (escZ z) = false := by
    have h := escB_esc z
    unfold escB at h
    unfold kindB
    rw [h]; rfl
  unfold kindOf seqOf
  rw [this]; exact ⟨rfl, rfl⟩
theorem escB_unesc (z : Nat → Int) : escB (unescZ z) = true := by
  have : wd (unescZ z) 0 = 1280199249 := g32_over z 0 1280199249 (by decide) (by decide)
  unfold escB; rw [this]; rfl
theorem magic_byte {z : Nat → Int} (hz : Byt z) (h : escB z = true) (i : Nat) (hi : i < 4) : byteOf 1280199249 i = z i := by
  have h' : wd z 0 = 1280199249 := by unfold escB at h; exact beq_iff_eq.1 h
  have := byteOf_g32 z hz 0 i hi
  rw [show g32 z 0 = 1280199249 from h', Nat.zero_add] at this
  exact this
theorem unesc_esc {z : Nat → Int} (hz : Byt z) (h : escB z = true) (i : Nat) : unescZ (escZ z) i = z i := by
  unfold unescZ escZ
  rw [h, if_pos rfl]
  by_cases hi : i < 4
  · rw [over_in _ _ _ _ _ (by omega), Nat.sub_zero]; exact magic_byte hz h i hi
  · rw [over_out _ _ _ _ _ (by omega), over_out _ _ _ _ _ (by omega)]
/-- a transaction's first copies and revoked blocks -/
def cut (t : Tr) (n m : Nat) : Tr := ⟨t.s, n, fun i => if i < n then t.cb i else 0, fun i => if i < n then t.cd i else fun _ => 0, m, fun i => if i < m then t.rv i else 0⟩
theorem cut_all {t : Tr} (ht : t.Ok) (hz : ∀ i, t.n ≤ i → t.cd i = fun _ => 0) : cut t t.n t.m = t := by
  obtain ⟨s, n, cb, cd, m, rv⟩ := t
  unfold cut
  simp only [Tr.mk.injEq, true_and]
  refine ⟨funext fun i => ?_, funext fun i => ?_, funext fun i => ?_⟩
  · split
    · rfl
    · exact (ht.cb0 i (by show n ≤ i; omega)).symm
  · split
    · rfl
    · exact (hz i (by show n ≤ i; omega)).symm
  · split
    · rfl
    · exact (ht.rv0 i (by show m ≤ i; omega)).symm
theorem cut_zero (t : Tr) : cut t 0 0 = tr0 t.s := rfl
theorem cut_addC {t : Tr} {L : Nat → Nat → Int} {u n k : Nat} {tb : Nat → Int} {te : Nat → Bool} (htb : ∀ i, i < k → tb i = t.cb (n + i)) (hd : ∀ i, i < k → (if te i = true then unescZ (L (u + i)) else L (u + i)) = t.cd (n + i)) : addC (cut t n 0) L u k tb te = cut t (n + k) 0 := by
  unfold addC cut
  simp only [Tr.mk.injEq, true_and, and_true]
  refine ⟨funext fun i => ?_, funext fun i => ?_⟩
  · by_cases h1 : i < n
    · rw [if_pos h1, if_pos h1, if_pos (by omega)]
    · rw [if_neg h1]
      by_cases h2 : i < n + k
      · rw [if_pos h2, if_pos h2, htb _ (by omega), show n + (i - n) = i by omega]
      · rw [if_neg h2, if_neg h2]
  · by_cases h1 : i < n
    · rw [if_pos h1, if_pos h1, if_pos (by omega)]
    · rw [if_neg h1]
      by_cases h2 : i < n + k
      · rw [if_pos h2, if_pos h2, hd _ (by omega), show n + (i - n) = i by omega]
      · rw [if_neg h2, if_neg h2]
theorem cut_addR {t : Tr} {n m k : Nat} {M : Nat → Int} (h : ∀ i, i < k → M i = t.rv (m + i)) : addR (cut t n m) k M = cut t n (m + k) := by
  unfold addR cut
  simp only [Tr.mk.injEq, true_and]
  refine funext fun i => ?_
  by_cases h1 : i < m
  · rw [if_pos h1, if_pos h1, if_pos (by omega)]
  · rw [if_neg h1]
    by_cases h2 : i < m + k
    · rw [if_pos h2, if_pos h2, h _ (by omega), show m + (i - m) = i by omega]
    · rw [if_neg h2, if_neg h2]
section
variable {t : Tr} {L : Nat → Nat → Int} {N : Nat}
/-- revoke blocks, and the commit -/
theorem prs_revs (ht : t.Ok) (hm : t.may = true) (hs : t.size ≤ 255) (hN : t.c + 1 ≤ N) (hl : ∀ i, i ≤ t.c → L i = pkB t i) : ∀ (d r : Nat), d = rN t.m - r → r ≤ rN t.m →
    prs L N t.s (N - (dN t.n + r)) (dN t.n + r) (cut t t.n (min (60 * r) t.m)) = some (cut t t.n t.m, t.c + 1)
  | 0, r, hd, hr => by
    obtain rfl : r = rN t.m := by omega
    have hu : dN t.n + rN t.m = t.c := rfl
    rw [prs_step _ _ _ _ _ (by omega), hu, hl t.c (Nat.le_refl _), show pkB t t.c = commitZ t.s t.c (crcB (pk0 t) t.c) by unfold pkB; rw [if_neg (by omega)]]
    obtain ⟨_, h2, h3⟩ := commit_law t.s t.c (crcB (pk0 t) t.c) (by unfold crcB; omega) (commitOk_c hm hs)
    rw [h2, h3, if_pos rfl, if_neg (by decide), if_neg (by decide), if_pos rfl, show min (60 * rN t.m) t.m = t.m by unfold rN; omega]
  | d + 1, r, hd, hr => by
    have hlt : r < rN t.m := by omega
    have hu : dN t.n + r < t.c := by show dN t.n + r < dN t.n + rN t.m; omega
    obtain ⟨_, _, _, h2⟩ := t.may_iff.1 hm
    have hW := wds_of h2 ht.rv0
    have hb : L (dN t.n + r) = revZ t.s (min 60 (t.m - 60 * r)) (fun k => t.rv (60 * r + k)) := by
      rw [hl _ (by omega)]; unfold pkB; rw [if_pos hu]; unfold pk0; rw [if_neg (by omega), show dN t.n + r - dN t.n = r by omega]
    obtain ⟨g1, _, g3, g4, g5, g6⟩ := revoke_law t.s (min 60 (t.m - 60 * r)) (fun k => t.rv (60 * r + k)) (fun k => hW _) (revOk_row hm hlt)
    rw [prs_step _ _ _ _ _ (by omega), hb, g6, g5, if_pos rfl, if_neg (by decide), if_pos rfl, if_pos g1, g3]
    have hk : min (60 * r) t.m = 60 * r := by unfold rN at hlt; omega
    rw [cut_addR (t := t) (n := t.n) (m := min (60 * r) t.m) (fun i hi => by rw [g4 i hi, hk]), show min (60 * r) t.m + min 60 (t.m - 60 * r) = min (60 * (r + 1)) t.m by unfold rN at hlt; omega, show dN t.n + r + 1 = dN t.n + (r + 1) by omega]
    exact prs_revs ht hm hs hN hl d (r + 1) (by omega) (by omega)
/-- descriptors with their copies -/
theorem prs_descs (ht : t.Ok) (hm : t.may = true) (hs : t.size ≤ 255) (hN : t.c + 1 ≤ N) (hl : ∀ i, i ≤ t.c → L i = pkB t i) : ∀ (d r : Nat), d = (t.n + 29) / 30 - r → r ≤ (t.n + 29) / 30 →
    prs L N t.s (N - cntC t.n r) (cntC t.n r) (cut t (min (30 * r) t.n) 0) = some (cut t t.n t.m, t.c + 1)
  | 0, r, hd, hr => by
    obtain rfl : r = (t.n + 29) / 30 := by omega
    rw [cntC_end, show min (30 * ((t.n + 29) / 30)) t.n = t.n by omega]
    have := prs_revs ht hm hs hN hl (rN t.m) 0 (by omega) (by omega)
    simpa using this
  | d + 1, r, hd, hr => by
    have hlt : r < (t.n + 29) / 30 := by omega
    obtain ⟨c1, c2⟩ := cntC_row hlt
    have hle := cntC_le t.n (r + 1) (by omega)
    have hu : dN t.n ≤ t.c := by show dN t.n ≤ dN t.n + rN t.m; omega
    obtain ⟨_, _, h2, _⟩ := t.may_iff.1 hm
    have hW := wds_of h2 ht.cb0
    have hp : ∀ i, i < dN t.n → L i = pk0 t i := fun i hi => by rw [hl _ (by omega)]; unfold pkB; rw [if_pos (by omega)]
    have hb : L (31 * r) = jdZ t.s (min 30 (t.n - 30 * r)) (fun k => t.cb (30 * r + k)) (fun k => escB (t.cd (30 * r + k))) := by
      rw [hp _ (by omega), ← pk0_desc hlt (by omega), if_neg (by omega), if_pos rfl]
    have hcp : ∀ i, i < min 30 (t.n - 30 * r) → L (31 * r + 1 + i) = escZ (t.cd (30 * r + i)) := fun i hi => by
      rw [hp _ (by omega), ← pk0_desc hlt (by omega), if_neg (by omega), if_neg (by omega), show 31 * r + 1 + i - 31 * r - 1 = i by omega]
    obtain ⟨g1, g2, g3, g4, g5, _⟩ := desc_law t.s (min 30 (t.n - 30 * r)) (fun k => t.cb (30 * r + k)) (fun k => escB (t.cd (30 * r + k))) (fun k => hW _) (jdOk_row hm hlt)
    rw [c1, prs_step _ _ _ _ _ (by omega), hb, g5, g4, if_pos rfl, if_pos rfl, g1, g2, if_pos ⟨rfl, by omega⟩]
    have hk : min (30 * r) t.n = 30 * r := by omega
    rw [hk, cut_addC (t := t) (n := 30 * r) (fun i hi => (g3 i hi).1) (fun i hi => by
      rw [(g3 i hi).2, hcp i hi]
      cases he : escB (t.cd (30 * r + i)) with
      | true => rw [if_pos rfl]; exact funext fun k => unesc_esc (ht.cd _) he k
      | false => rw [if_neg (by decide)]; unfold escZ; rw [he]; rfl), ← c2, show 30 * r + min 30 (t.n - 30 * r) = min (30 * (r + 1)) t.n by omega]
    exact prs_descs ht hm hs hN hl d (r + 1) (by omega) (by omega)
theorem packE_zero (h : packE t = 0) : t.may = true ∧ t.size ≤ 255 := by
  unfold packE at h
  split at h
  · rename_i hm
    refine ⟨hm, ?_⟩
    split at h
    · assumption
    · cases h
  · cases h
theorem unp_pack (ht : t.Ok) (hz : ∀ i, t.n ≤ i → t.cd i = fun _ => 0) (hE : packE t = 0) (hN : t.c + 1 ≤ N) (hl : ∀ i, i ≤ t.c → L i = pkB t i) : unp L N t.s = some (t, t.c + 1) := by
  obtain ⟨hm, hs⟩ := packE_zero hE
  have hc := size_c hm
  have hM : t.c + 1 ≤ min N 255 := by omega
  have h := prs_descs (N := min N 255) ht hm hs hM hl _ 0 rfl (Nat.zero_le _)
  rw [cntC_zero, cut_all ht hz, show min (30 * 0) t.n = 0 by omega, cut_zero] at h
  unfold unp
  rw [show min N 255 - 0 = min N 255 by omega] at h
  rw [h]
  show (if packE t = 0 ∧ sameB (pkB t) L (t.c + 1) (t.c + 1) = true then some (t, t.c + 1) else none) = _
  have hsb : sameB (pkB t) L (t.c + 1) (t.c + 1) = true := by
    unfold sameB
    rw [beq_self_eq_true, Bool.true_and, eqBs_iff]
    intro i hi j _
    rw [hl i (by omega)]
  rw [if_pos ⟨hE, hsb⟩]
/-- the first block tells the number -/
theorem pk_seq (ht : t.Ok) (hm : t.may = true) : seqOf (pkB t 0) = t.s := by
  obtain ⟨_, h0, h2, h3⟩ := t.may_iff.1 hm
  have hc : 0 < t.c := by unfold Tr.c dN rN; omega
  have hp : pkB t 0 = pk0 t 0 := by unfold pkB; rw [if_pos hc]
  rw [hp]
  unfold pk0
  split
  · rename_i hd
    rw [if_pos (by decide)]
    exact (desc_law t.s _ _ _ (fun k => wds_of h2 ht.cb0 _) (jdOk_row hm (r := 0) (by unfold dN at hd; omega))).2.2.2.2.1
  · rename_i hd
    rw [show 0 - dN t.n = 0 by omega]
    exact (revoke_law t.s _ _ (fun k => wds_of h3 ht.rv0 _) (revOk_row hm (r := 0) (by unfold rN; unfold dN at hd; omega))).2.2.2.2.2
theorem unp_other (ht : t.Ok) (hE : packE t = 0) (hl : L 0 = pkB t 0) {s : Int} (hs : s ≠ t.s) : unp L N s = none := by
  obtain ⟨hm, _⟩ := packE_zero hE
  have : prs L (min N 255) s (min N 255) 0 (tr0 s) = none := by
    by_cases h : 0 < min N 255
    · have := prs_step L (min N 255) s 0 (tr0 s) h
      rw [show min N 255 - 0 = min N 255 by omega] at this
      rw [this, hl, pk_seq ht hm, if_neg (fun e => hs e.symm)]
    · rw [show min N 255 = 0 by omega]; rfl
  unfold unp; rw [this]
end
end Go.Proofs.YtnbmmhoofilmfaaDoor

/- The chapter's examples: quernlaw15.awake returns true. -/
namespace Go.Proofs.YtnbmmhoofilmfaaDoor
open Go.RowKit
set_option linter.unusedVariables false

def t7 : Tr := ⟨7, 1, fun i => if i < 1 then 5 else 0, fun _ _ => 0, 1, fun i => if i < 1 then 9 else 0⟩
theorem t7_ok : t7.Ok := by
  refine ⟨by decide, fun i => ?_, fun i => zero_bytJ, fun i => ?_, by decide, by decide, fun i hi => ?_, fun i hi => ?_⟩
  · show _ ≤ (if i < 1 then (5 : Int) else 0) ∧ (if i < 1 then (5 : Int) else 0) ≤ _; split <;> decide
  · show _ ≤ (if i < 1 then (9 : Int) else 0) ∧ (if i < 1 then (9 : Int) else 0) ≤ _; split <;> decide
  · have hi : 1 ≤ i := hi
    show (if i < 1 then (5 : Int) else 0) = 0; rw [if_neg (by omega)]
  · have hi : 1 ≤ i := hi
    show (if i < 1 then (9 : Int) else 0) = 0; rw [if_neg (by omega)]
theorem t7_E : packE t7 = 0 := by decide
theorem t7_c : t7.c = 3 := rfl
theorem tr0_ok : (tr0 7).Ok := (POk.zero 7).ok (by decide) (by decide)
theorem tr0_E : packE (tr0 7) = 150 := by decide
theorem t7_0 : descRd (pkB t7 0) = true ∧ rowsN (pkB t7 0) = 1 ∧ descT (pkB t7 0) 0 = 5 ∧ wd (pkB t7 0) 2 = 7 := by
  obtain ⟨h1, h2, h3, _, _, h6⟩ := desc_law 7 1 (fun k => t7.cb k) (fun k => escB (t7.cd k)) (fun k => by show 0 ≤ (if k < 1 then (5 : Int) else 0) ∧ (if k < 1 then (5 : Int) else 0) < _; split <;> decide) (by decide)
  have e : pkB t7 0 = jdZ 7 1 (fun k => t7.cb k) (fun k => escB (t7.cd k)) := by
    unfold pkB; rw [if_pos (by decide)]; unfold pk0; rw [if_pos (by decide), if_pos (by decide)]
    simp only [Nat.zero_div, Nat.mul_zero, Nat.zero_add]; rfl
  rw [e]
  exact ⟨h1, h2, (h3 0 (by decide)).1, h6⟩
theorem t7_2 : revRd (pkB t7 2) = true ∧ rowsN (pkB t7 2) = 1 ∧ revM (pkB t7 2) 0 = 9 ∧ wd (pkB t7 2) 2 = 7 := by
  obtain ⟨h1, h6, h2, h3, _, _⟩ := revoke_law 7 1 (fun k => t7.rv k) (fun k => by show 0 ≤ (if k < 1 then (9 : Int) else 0) ∧ (if k < 1 then (9 : Int) else 0) < _; split <;> decide) (by decide)
  have e : pkB t7 2 = revZ 7 1 (fun k => t7.rv k) := by
    unfold pkB; rw [if_pos (by decide)]; unfold pk0; rw [if_neg (by decide), show 2 - dN t7.n = 0 from rfl]
    simp only [Nat.mul_zero, Nat.zero_add]; rfl
  rw [e]
  exact ⟨h1, h2, h3 0 (by decide), h6⟩
theorem t7_3 : commitV (pkB t7 3) = .tuple #[.int .u32 7, .int .i64 3, .int .u32 (crcB (pk0 t7) 3), .int .i64 0] := by
  have e : pkB t7 3 = commitZ 7 3 (crcB (pk0 t7) 3) := by
    unfold pkB; rw [if_neg (by decide)]; rfl
  rw [e]
  exact (commit_law 7 3 (crcB (pk0 t7) 3) (by unfold crcB; omega) (by decide)).1
theorem build_copy5 (w : World) : (Instr.build 101 #[(0, .int .i64 5)]).run Tryd.prog w = .ok (.agg (cpc 5 fun _ => 0).toArray) w := by kernel_rfl

theorem bel_cell {w w' : World} {B : Nat} (h : Below B w w') (g : Nat) (hg : g < B) : w'.cell? ⟨g, 0, none⟩ = w.cell? ⟨g, 0, none⟩ := World.cell?_of_block (h.block g hg)
theorem rrow_new1 (w : World) (xs : List Value) (T : TypeId) (m : Nat) (f : Nat → List Value) (hf : f 0 = xs) : RRow (w.alloc (.cells xs.toArray T)) (some ⟨w.heap.size, 0, none⟩) m 1 f :=
  .inr ⟨_, _, rfl, fun i hi j v hj => by
    obtain rfl : i = 0 := by omega
    rw [hf] at hj
    rw [show 0 + 0 * m + j = j by omega]
    exact cell_of_heap (heap_alloc_new w _) (by simpa using hj)⟩
end Go.Proofs.YtnbmmhoofilmfaaDoor

/- quernlaw15.great, quernlaw15.Block. -/
namespace Go.Proofs.YtnbmmhoofilmfaaDoor
open Go.RowKit
set_option linter.unusedVariables false

def greatB (n m : Nat) : Bool := decide (400 < n) || decide (3000 < m)
/-- a row's bytes -/
def rowZ (f : Int) (mg : Bool) : Nat → Int := if mg then over (fun _ => f) 0 4 (byteOf 1280199249) else fun _ => f
theorem rowZ_byt {f : Int} (hf : 0 ≤ f ∧ f < 256) (mg : Bool) : Byt (rowZ f mg) := by
  unfold rowZ; split
  · exact byt_over (fun _ => hf) (byt_byteOf _) _ _
  · exact fun _ => hf
abbrev rwcells (b f : Int) (mg : Bool) : Array Value := #[.int .i64 b, .int .u8 f, .bool mg]
structure B15 (w : World) (b f : Int) (mg : Bool) (z : Nat → Int) (W : World) : Prop where
  x : At W w.heap.size 63 (rwcells b f mg)
  r : Blk W (w.heap.size + 1) 32 256 (fun _ => 0)
  b : Blk W (w.heap.size + 2) 32 256 z
  bel : Below w.heap.size w W
theorem B15.step {w : World} {b f : Int} {mg : Bool} {z z' : Nat → Int} {W W' : World} (h : B15 w b f mg z W) (hB : Blk W' (w.heap.size + 2) 32 256 z') (ho : Only (w.heap.size + 2) W W') : B15 w b f mg z' W' :=
  ⟨h.x.only ho (by omega), h.r.only ho (by omega), hB, h.bel.trans (ho.below (by omega))⟩
theorem B15.congr {w : World} {b f : Int} {mg : Bool} {z z' : Nat → Int} {W : World} (h : B15 w b f mg z W) (he : ∀ i, i < 256 → z i = z' i) : B15 w b f mg z' W := ⟨h.x, h.r, h.b.congr he, h.bel⟩

set_option maxRecDepth 100000 in
set_option maxHeartbeats 4000000 in
theorem block15_any (b f : Int) (hf : 0 ≤ f ∧ f < 256) (mg : Bool) (w : World) : Calls Tryd.prog 52 #[.agg (rwcells b f mg)] w fun e w' => e = .returned (bval (rowZ f mg)) ∧ Below w.heap.size w w' := by
  have hal := zero_block
  have st0 : Hid (B15 w b f mg (fun i => if i < 0 then f else 0) (((w.alloc (.cells (rwcells b f mg) 63)).alloc (.cells (Ks .u8 256 (fun _ => 0)).toArray 32)).alloc (.cells (Ks .u8 256 (fun _ => 0)).toArray 32))) := by
    refine ⟨((At.new w _ _).alloc _).alloc _, ?_, ?_, (((Below.refl _ _).alloc (Nat.le_refl _) _).alloc (by simp) _).alloc (by simp; omega) _⟩
    · have := (Blk.new (w.alloc (.cells (rwcells b f mg) 63)) 32 256 (fun _ => 0)).alloc (.cells (Ks .u8 256 (fun _ => 0)).toArray 32)
      simp only [World.size_alloc] at this; exact this
    · have := Blk.new ((w.alloc (.cells (rwcells b f mg) 63)).alloc (.cells (Ks .u8 256 (fun _ => 0)).toArray 32)) 32 256 (fun _ => 0)
      simp only [World.size_alloc] at this
      exact this.congr fun i _ => by rw [if_neg (by omega)]
  go_enter Tryd.func52, Tryd.ntmps52
  go_wp2_with fail
  go_loopw [4] (fun u wr => ∃ k : Nat, k ≤ 256 ∧ u = .int .i64 (k : Int) ∧ B15 w b f mg (fun i => if i < k then f else 0) wr) (fun u _ => 256 - (intOf u).toNat)
  case atStart => exact ⟨0, by omega, rfl, st0.out⟩
  case round =>
    clear st0
    obtain ⟨k, hk, rfl, st⟩ := hrel
    by_cases hlt : k < 256
    · have hB := st.b
      have l1 : (k : Int) < 256 := by omega
      have c1 : wr.cell? ⟨w.heap.size, 1, none⟩ = some (.int .u8 f) := st.x.cell (i := 1) rfl
      go_wp2_with (first | (refine wp_storeByte rfl (.tmp 12) (.tmp 11) rfl (w.heap.size + 2) k f rfl rfl hB hlt ?_))
      intro w7 hb7 ho7
      have st7 : B15 w b f mg (fun i => if i < k + 1 then f else 0) w7 := st.step (hb7.congr fun i _ => by
        unfold over
        by_cases e : k ≤ i ∧ i < k + 1
        · rw [if_pos e, if_pos (by omega)]
        · rw [if_neg e]
          show (if i < k then f else 0) = _
          by_cases e2 : i < k
          · rw [if_pos e2, if_pos (by omega)]
          · rw [if_neg e2, if_neg (by omega)]) ho7
      clear st hB hb7 ho7
      go_wp2_with fail
      go_roundw
      case rel => first | exact ⟨k + 1, by omega, by go_num, st7⟩ | exact ⟨k + 1, by omega, rfl, st7⟩
      case measure => simp [intOf]; omega
    · obtain rfl : k = 256 := by omega
      have st2 : B15 w b f mg (fun _ => f) wr := st.congr fun i hi => by rw [if_pos hi]
      have c2 : wr.cell? ⟨w.heap.size, 2, none⟩ = some (.bool mg) := st2.x.cell (i := 2) rfl
      clear st
      cases mg with
      | false =>
        have HST := Lib.hid st2
        have hB := st2.b
        have hR := st2.r
        clear st2
        go_wp2_with (first | (refine wp_loadBlkG rfl (.tmp 3) rfl (w.heap.size + 2) (fun _ => f) rfl hB ?_) | (refine wp_storeBlk rfl (.tmp 2) (.tmp 19) rfl (w.heap.size + 1) (fun _ => f) _ rfl rfl hR ?_))
        intro w3 hR3 ho3
        have HLZ := Lib.hid (HST.out.bel.trans (ho3.below (by omega)))
        clear HST hB hR ho3
        go_wp2_with fail
        exact bodyPost_ret (results_blk rfl _ _ (w.heap.size + 1) _ rfl hR3) rfl ⟨rfl, HLZ.out⟩
      | true =>
        have hB := st2.b
        go_wp2_with (first | (refine wp_storeByte rfl (.tmp 15) (.const (.int .u8 81)) rfl (w.heap.size + 2) 0 81 rfl rfl hB (by decide) ?_))
        intro w4 hb4 ho4
        have st4 := st2.step hb4 ho4
        have hB4 := st4.b
        clear st2 hB hb4 ho4
        go_wp2_with (first | (refine wp_storeByte rfl (.tmp 16) (.const (.int .u8 74)) rfl (w.heap.size + 2) 1 74 rfl rfl hB4 (by decide) ?_))
        intro w5 hb5 ho5
        have st5 := st4.step hb5 ho5
        have hB5 := st5.b
        clear st4 hB4 hb5 ho5
        go_wp2_with (first | (refine wp_storeByte rfl (.tmp 17) (.const (.int .u8 78)) rfl (w.heap.size + 2) 2 78 rfl rfl hB5 (by decide) ?_))
        intro w6 hb6 ho6
        have st6 := st5.step hb6 ho6
        have hB6 := st6.b
        clear st5 hB5 hb6 ho6
        go_wp2_with (first | (refine wp_storeByte rfl (.tmp 18) (.const (.int .u8 76)) rfl (w.heap.size + 2) 3 76 rfl rfl hB6 (by decide) ?_))
        intro w7 hb7 ho7
        have st7 := (st6.step hb7 ho7).congr (z' := rowZ f true) fun i _ => by
          unfold rowZ over
          rw [if_pos rfl]
          by_cases e3 : i = 3
          · subst e3; rfl
          by_cases e2 : i = 2
          · subst e2; rfl
          by_cases e1 : i = 1
          · subst e1; rfl
          by_cases e0 : i = 0
          · subst e0; rfl
          rw [if_neg (by omega), if_neg (by omega), if_neg (by omega), if_neg (by omega), if_neg (by omega)]
        have HST := Lib.hid st7
        have hB7 := st7.b
        have hR := st7.r
        clear st6 hB6 hb7 ho7 st7
        go_wp2_with (first | (refine wp_loadBlkG rfl (.tmp 3) rfl (w.heap.size + 2) (rowZ f true) rfl hB7 ?_) | (refine wp_storeBlk rfl (.tmp 2) (.tmp 19) rfl (w.heap.size + 1) (rowZ f true) _ rfl rfl hR ?_))
        intro w3 hR3 ho3
        have HLZ := Lib.hid (HST.out.bel.trans (ho3.below (by omega)))
        clear HST hB7 hR ho3
        go_wp2_with fail
        exact bodyPost_ret (results_blk rfl _ _ (w.heap.size + 1) _ rfl hR3) rfl ⟨rfl, HLZ.out⟩
end Go.Proofs.YtnbmmhoofilmfaaDoor
