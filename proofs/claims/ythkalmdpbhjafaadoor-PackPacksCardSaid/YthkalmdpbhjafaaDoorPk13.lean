/- The chapter's examples: quernlaw15.awake returns true. -/
import Derived.Test.YthkalmdpbhjafaaDoorPk12
namespace Go.Proofs.YthkalmdpbhjafaaDoor
open Go.RowKit
set_option linter.unusedVariables false

def t7 : Tr := ⟨7, 1, fun i => if i < 1 then 5 else 0, fun _ _ => 0, 1, fun i => if i < 1 then 9 else 0⟩
theorem t7_ok : t7.Ok := by
  refine ⟨by decide, fun i => ?_, fun i => zero_bytJ, fun i => ?_, by decide, by decide, fun i hi => ?_, fun i hi => ?_⟩
  · show _ ≤ (if i < 1 then (5 : Int) else 0) ∧ (if i < 1 then (5 : Int) else 0) ≤ _; split <;> decide
  · show _ ≤ (if i < 1 then (9 : Int) else 0) ∧ (if i < 1 then (9 : Int) else 0) ≤ _; split <;> decide
  · have hi : 1 ≤ i := hi
    show (if i < 1 then (5 : Int) else 0) = 0; rw [if_neg (by omega)]
  · have hi : 1 ≤ i := hi
    show (if i < 1 then (9 : Int) else 0) = 0; rw [if_neg (by omega)]
theorem t7_E : packE t7 = 0 := by decide
theorem t7_c : t7.c = 3 := rfl
theorem tr0_ok : (tr0 7).Ok := (POk.zero 7).ok (by decide) (by decide)
theorem tr0_E : packE (tr0 7) = 150 := by decide
theorem t7_0 : descRd (pkB t7 0) = true ∧ rowsN (pkB t7 0) = 1 ∧ descT (pkB t7 0) 0 = 5 ∧ wd (pkB t7 0) 2 = 7 := by
  obtain ⟨h1, h2, h3, _, _, h6⟩ := desc_law 7 1 (fun k => t7.cb k) (fun k => escB (t7.cd k)) (fun k => by show 0 ≤ (if k < 1 then (5 : Int) else 0) ∧ (if k < 1 then (5 : Int) else 0) < _; split <;> decide) (by decide)
  have e : pkB t7 0 = descZ 7 1 (fun k => t7.cb k) (fun k => escB (t7.cd k)) := by
    unfold pkB; rw [if_pos (by decide)]; unfold pk0; rw [if_pos (by decide), if_pos (by decide)]
    simp only [Nat.zero_div, Nat.mul_zero, Nat.zero_add]; rfl
  rw [e]
  exact ⟨h1, h2, (h3 0 (by decide)).1, h6⟩
theorem t7_2 : revRd (pkB t7 2) = true ∧ rowsN (pkB t7 2) = 1 ∧ revM (pkB t7 2) 0 = 9 ∧ wd (pkB t7 2) 2 = 7 := by
  obtain ⟨h1, h6, h2, h3, _, _⟩ := revoke_law 7 1 (fun k => t7.rv k) (fun k => by show 0 ≤ (if k < 1 then (9 : Int) else 0) ∧ (if k < 1 then (9 : Int) else 0) < _; split <;> decide) (by decide)
  have e : pkB t7 2 = revZ 7 1 (fun k => t7.rv k) := by
    unfold pkB; rw [if_pos (by decide)]; unfold pk0; rw [if_neg (by decide), show 2 - dN t7.n = 0 from rfl]
    simp only [Nat.mul_zero, Nat.zero_add]; rfl
  rw [e]
  exact ⟨h1, h2, h3 0 (by decide), h6⟩
theorem t7_3 : commitV (pkB t7 3) = .tuple #[.int .u32 7, .int .i64 3, .int .u32 (crcB (pk0 t7) 3), .int .i64 0] := by
  have e : pkB t7 3 = commitZ 7 3 (crcB (pk0 t7) 3) := by
    unfold pkB; rw [if_neg (by decide)]; rfl
  rw [e]
  exact (commit_law 7 3 (crcB (pk0 t7) 3) (by unfold crcB; omega) (by decide)).1
theorem build_copy5 (w : World) : (Instr.build 61 #[(0, .int .i64 5)]).run Tryd.prog w = .ok (.agg (cpc 5 fun _ => 0).toArray) w := by kernel_rfl

theorem bel_cell {w w' : World} {B : Nat} (h : Below B w w') (g : Nat) (hg : g < B) : w'.cell? ⟨g, 0, none⟩ = w.cell? ⟨g, 0, none⟩ := World.cell?_of_block (h.block g hg)
theorem rrow_new1 (w : World) (xs : List Value) (T : TypeId) (m : Nat) (f : Nat → List Value) (hf : f 0 = xs) : RRow (w.alloc (.cells xs.toArray T)) (some ⟨w.heap.size, 0, none⟩) m 1 f :=
  .inr ⟨_, _, rfl, fun i hi j v hj => by
    obtain rfl : i = 0 := by omega
    rw [hf] at hj
    rw [show 0 + 0 * m + j = j by omega]
    exact cell_of_heap (heap_alloc_new w _) (by simpa using hj)⟩
set_option maxRecDepth 100000 in
set_option maxHeartbeats 8000000 in
theorem awake15 (w : World) (hT : Tab w) : Calls Tryd.prog 21 #[] w fun e w' => e = .returned (.bool true) ∧ Below w.heap.size w w' := by
  have hal := zero_block
  have halt := zero_trans
  have hTl := hT.lt
  have HT := Lib.hid hT
  clear hT
  go_enter Tryd.func21, Tryd.ntmps21
  go_wp2_with (first | (refine wpList_slice1 rfl 26 1 0 (.tmp 19) rfl (.agg (cpc 5 fun _ => 0).toArray) rfl _ _ (run_copy1 5 (fun _ => 0) _) ?_) | (refine wpList_slice1 rfl 24 1 0 _ rfl (.int .i64 9) rfl _ _ (run_int1 9 _) ?_))
  have hca := (rrow_new1 w (cpc 5 fun _ => 0) 61 257 (cpF t7.cb t7.cd) rfl).alloc (.cells #[.int .i64 9] 3)
  have hra := rrow_new1 (w.alloc (.cells (cpc 5 fun _ => 0).toArray 61)) [.int .i64 9] 3 1 (inF t7.rv) rfl
  have hs0 : ((w.alloc (.cells (cpc 5 fun _ => 0).toArray 61)).alloc (.cells #[.int .i64 9] 3)).heap.size = w.heap.size + 1 + 1 := by rw [World.size_alloc, World.size_alloc]
  have HL0 := Lib.hid (((Below.refl w.heap.size w).alloc (Nat.le_refl _) (.cells (cpc 5 fun _ => 0).toArray 61)).alloc (by rw [World.size_alloc]; omega) (.cells #[.int .i64 9] 3))
  rw [World.size_alloc] at hra
  refine (pack_any t7 t7_ok (some ⟨w.heap.size, 0, none⟩) 1 (some ⟨w.heap.size + 1, 0, none⟩) 1 _ ((HT.out.alloc _).alloc _) hca hra (fun b off e => by injection e with e; injection e with e1 e2; rw [hs0]; omega) (fun b off e => by injection e with e; injection e with e1 e2; rw [hs0]; omega) (Nat.le_refl _) (Nat.le_refl _)).mono ?_
  rintro e w1 ⟨hp, hb1⟩
  rcases hp with ⟨hE, _⟩ | ⟨_, q, rfl, hq, hq1⟩
  · exact absurd t7_E hE
  have HT1 := Lib.hid (((HT.out.alloc _).alloc _).below hb1 (Nat.le_refl _))
  have HL1 := Lib.hid (HL0.out.trans (hb1.mono (by rw [hs0]; omega)))
  have HQ1 := Lib.hid hq1
  have hs1 := hb1.size
  rw [hs0] at hs1 hq
  clear hca hra hs0 HL0 hb1 hq1
  go_wp2_with fail
  have hnil : ∀ (m : Nat) (f : Nat → List Value), RRow w1 none m 0 f := fun _ _ => .inl rfl
  refine (pack_any (tr0 7) tr0_ok none 0 none 0 w1 HT1.out (hnil _ _) (hnil _ _) (fun b off e => by cases e) (fun b off e => by cases e) (Nat.le_refl _) (Nat.le_refl _)).mono ?_
  rintro e w2 ⟨hp, hb2⟩
  rcases hp with ⟨_, rfl⟩ | ⟨hE, _⟩
  rotate_left
  · exact absurd (tr0_E.symm.trans hE) (by decide)
  rw [tr0_E]
  have HT2 := Lib.hid (HT1.out.below hb2 (Nat.le_refl _))
  have HL2 := Lib.hid (HL1.out.trans (hb2.mono (by omega)))
  have HQ2 := Lib.hid (HQ1.out.below hb2)
  have hs2 := hb2.size
  clear HT1 HL1 HQ1 hb2 hnil
  rw [t7_c]
  rw [t7_c] at HQ2
  have hq2 := HQ2.out.lt
  have sg := HQ2.out.seg
  have hrg : ∀ i, i < 4 → w2.rangeAt q (i * 256) (bkF (pkB t7) i) := fun i hi => by have := RSeg.range sg i hi; rwa [Nat.zero_add] at this
  have rg0 := hrg 0 (by decide)
  clear sg
  go_wp2_with (first | (refine wp_loadMid rfl 40 (.tmp 44) rfl q 0 (bkF (pkB t7) 0) _ rfl rg0 Tryd.underlying40 rfl (by rw [bkF_len]; exact info_block) ?_))
  refine (readDesc_any (pkB t7 0) (pkB_byt t7 t7_ok 0) w2).mono ?_
  rintro e w3 ⟨hb3, (⟨hno, _⟩ | ⟨_, g3, c3, rfl, ho3⟩)⟩
  · exact absurd (t7_0.1.symm.trans hno) (by decide)
  rw [t7_0.2.1, t7_0.2.2.2]
  rw [t7_0.2.1] at ho3
  have tg3 : w3.cell? ⟨g3, 0, none⟩ = some (.int .u32 5) ∧ g3 < w3.heap.size := by
    obtain ⟨a, cap, he, hrow, hlt, _⟩ := own_tags ho3
    injection he with e1 e2 e3
    subst e1
    rcases hrow with h0 | ⟨b, off, he, hsg⟩
    · omega
    · injection he with he; injection he with h1 h2; subst h1 h2
      have := (hsg 0 (by decide)).1
      rw [t7_0.2.2.1] at this
      exact ⟨this, (hlt _ rfl).2⟩
  have hg3 : w2.heap.size ≤ g3 := (World.ownsRow.lt ho3 g3 rfl).1
  have HT3 := Lib.hid (HT2.out.below hb3 (Nat.le_refl _))
  have HL3 := Lib.hid (HL2.out.trans (hb3.mono (by omega)))
  have HQ3 := Lib.hid (HQ2.out.below hb3)
  have hs3 := hb3.size
  have rg2 := rangeAt_below (hrg 2 (by decide)) hb3 hq2
  obtain ⟨tg, tgl⟩ := tg3
  clear HT2 HL2 HQ2 hrg rg0 ho3 hb3
  go_wp2_with (first | (refine wp_loadMid rfl 40 (.tmp 52) rfl q (2 * 256) (bkF (pkB t7) 2) _ rfl rg2 Tryd.underlying40 rfl (by rw [bkF_len]; exact info_block) ?_))
  refine (readRevoke_any (pkB t7 2) (pkB_byt t7 t7_ok 2) w3).mono ?_
  rintro e w4 ⟨hb4, (⟨hno, _⟩ | ⟨_, g4, c4, rfl, ho4⟩)⟩
  · exact absurd (t7_2.1.symm.trans hno) (by decide)
  rw [t7_2.2.1, t7_2.2.2.2]
  rw [t7_2.2.1] at ho4
  have hg4 : w3.heap.size ≤ g4 ∧ g4 < w4.heap.size := World.ownsRow.lt ho4 g4 rfl
  have nm : w4.cell? ⟨g4, 0, none⟩ = some (.int .u32 9) := by
    rcases own_nums ho4 with h0 | ⟨b, off, he, hsg⟩
    · omega
    · injection he with he; injection he with h1 h2; subst h1 h2
      have := hsg 0 (by decide)
      rwa [t7_2.2.2.1] at this
  have tg4 : w4.cell? ⟨g3, 0, none⟩ = some (.int .u32 5) := (bel_cell hb4 g3 tgl).trans tg
  have HT4 := Lib.hid (HT3.out.below hb4 (Nat.le_refl _))
  have HL4 := Lib.hid (HL3.out.trans (hb4.mono (by omega)))
  have HQ4 := Lib.hid (HQ3.out.below hb4)
  have hs4 := hb4.size
  have rg3 : w4.rangeAt q (3 * 256) (bkF (pkB t7) 3) := by have := RSeg.range HQ4.out.seg 3 (by decide); rwa [Nat.zero_add] at this
  clear HT3 HL3 HQ3 rg2 ho4 hb4 tg
  go_wp2_with (first | (refine wp_loadMid rfl 40 (.tmp 60) rfl q (3 * 256) (bkF (pkB t7) 3) _ rfl rg3 Tryd.underlying40 rfl (by rw [bkF_len]; exact info_block) ?_))
  refine (readCommit_any (pkB t7 3) (pkB_byt t7 t7_ok 3) w4).mono ?_
  rintro e w5 ⟨rfl, hb5⟩
  rw [t7_3]
  have tg5 : w5.cell? ⟨g3, 0, none⟩ = some (.int .u32 5) := (bel_cell hb5 g3 (by show g3 < _; omega)).trans tg4
  have nm5 : w5.cell? ⟨g4, 0, none⟩ = some (.int .u32 9) := (bel_cell hb5 g4 hg4.2).trans nm
  have HT5 := Lib.hid (HT4.out.below hb5 (Nat.le_refl _))
  have HL5 := Lib.hid (HL4.out.trans (hb5.mono (by omega)))
  have HQ5 := Lib.hid (HQ4.out.below hb5)
  have hs5 := hb5.size
  clear HT4 HL4 HQ4 rg3 hb5 tg4 nm
  go_wp2_with fail
  have hq5 := HQ5.out.lt
  refine (unpack_any (some ⟨q, 0, none⟩) 4 4 (pkB t7) (pkB_byt t7 t7_ok) 7 (by decide) (Nat.le_refl _) (by decide) w5 HT5.out (.inr ⟨q, 0, rfl, HQ5.out.seg⟩) (fun b off e => by injection e with e; injection e with e1 e2; omega)).mono ?_
  rintro e w6 ⟨hp, hb6⟩
  have hu : unp (pkB t7) 4 7 = some (t7, 4) := unp_pack t7_ok (fun i _ => rfl) t7_E (Nat.le_refl _) (fun i _ => rfl)
  rcases hp with ⟨hn, _⟩ | ⟨t, u, ca, cc, ra, rc, hs, rfl, hC, hR⟩
  · rw [hu] at hn; cases hn
  rw [hu] at hs
  injection hs with hs
  injection hs with h1 h2
  subst h1 h2
  rw [show t7.n = 1 from rfl, show t7.m = 1 from rfl]
  have tg6 : w6.cell? ⟨g3, 0, none⟩ = some (.int .u32 5) := (bel_cell hb6 g3 (by show g3 < _; omega)).trans tg5
  have nm6 : w6.cell? ⟨g4, 0, none⟩ = some (.int .u32 9) := (bel_cell hb6 g4 (by show g4 < _; omega)).trans nm5
  have HL6 := Lib.hid (HL5.out.trans (hb6.mono (by omega)))
  have hs6 := hb6.size
  have tg7 : (w6.alloc (.cells (tcells 0 none 0 0 none 0 0) 28)).cell? ⟨g3, 0, none⟩ = some (.int .u32 5) := by rw [World.cell?_of_block (w := w6) (Below.heap_alloc w6 _ g3 (by omega))]; exact tg6
  have nm7 : (w6.alloc (.cells (tcells 0 none 0 0 none 0 0) 28)).cell? ⟨g4, 0, none⟩ = some (.int .u32 9) := by rw [World.cell?_of_block (w := w6) (Below.heap_alloc w6 _ g4 (by omega))]; exact nm6
  have hB7 := At.new w6 28 (tcells 0 none 0 0 none 0 0)
  have HL7 := Lib.hid (HL6.out.alloc (by omega) (.cells (tcells 0 none 0 0 none 0 0) 28))
  clear HT5 HL5 HQ5 hb6 tg5 nm5 tg6 nm6 hC hR hu HL6
  go_wp2_with (first | (refine wp_storeAt rfl 28 (.tmp 15) (.tmp 70) rfl w6.heap.size (tcells 7 ca 1 cc ra 1 rc) _ rfl rfl hB7 (info_trans 0 none 0 0 none 0 0) rfl (by kernel_rfl) ?_))
  intro w7 hB8 ho8
  have tg8 : w7.cell? ⟨g3, 0, none⟩ = some (.int .u32 5) := (ho8.cell (p := ⟨g3, 0, none⟩) (by show g3 ≠ _; omega)).trans tg7
  have nm8 : w7.cell? ⟨g4, 0, none⟩ = some (.int .u32 9) := (ho8.cell (p := ⟨g4, 0, none⟩) (by show g4 ≠ _; omega)).trans nm7
  have cc8 : w7.cell? ⟨w6.heap.size, 1, none⟩ = some (.slice ca 1 cc) := hB8.cell (i := 1) rfl
  have HL8 := Lib.hid (HL7.out.trans (ho8.below (by omega)))
  clear tg7 nm7 hB7 HL7 ho8 hB8
  go_wp2_with fail
  refine (packSize_any 30 61 w7).mono ?_
  rintro e w8 ⟨rfl, rfl⟩
  rw [show sizeOf (30 : Int) 61 = 34 by decide]
  go_wp2_with fail
  go_ret
  exact ⟨rfl, HL8.out⟩
end Go.Proofs.YthkalmdpbhjafaaDoor
