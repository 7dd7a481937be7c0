/- Texts of this claim, merged by a program (a claim may have 60 files): Jb7, Same9, Jb8. -/
import Derived.Test.YtnbmmhoofilmfaaDoorK10
import Derived.Laws.OwnMore
/- The contract of jblock.readRows over numbers, and of ReadRevoke. -/
namespace Go.Proofs.YtnbmmhoofilmfaaDoor
open Go.RowKit
set_option linter.unusedVariables false

/-- how many rows a block tells -/
def rowsN (z : Nat → Int) : Nat := (wd z 3).toNat
def revM (z : Nat → Int) : Nat → Int := fun i => wd z (4 + i)
def revRd (z : Nat → Int) : Bool := kindOf z == 3 && (decide (1 ≤ wd z 3 ∧ wd z 3 ≤ 60) && (riseB (revM z) (rowsN z) && allZ (fun j => wd z (4 + rowsN z + j)) (60 - rowsN z)))
/-- what ReadRevoke answers -/
def RevRead (w : World) (z : Nat → Int) (e : Ending) (w' : World) : Prop :=
  Below w.heap.size w w' ∧ (revRd z = false ∧ e = .returned (.tuple #[.int .u32 0, .slice none 0 0, .int .i64 90]) ∨
    revRd z = true ∧ ∃ g cap, e = .returned (.tuple #[.int .u32 (wd z 2), .slice (some ⟨g, 0, none⟩) (rowsN z) cap, .int .i64 0]) ∧ w'.ownsRow w.heap.size 34 1 (.slice (some ⟨g, 0, none⟩) (rowsN z) cap) (rowsN z) (Ks .u32 (rowsN z) (revM z)))
theorem info_u32 : (Tryd.prog.info? 34).map (fun i => (i.zero, i.size, i.bytes)) = some (some (.int .u32 0), 1, 4) := by kernel_rfl
theorem run_num1 (x : Int) (w : World) : (Instr.buildSlice 149 1 #[(0, .int .u32 x)]).run Tryd.prog w = .ok (.slice (some ⟨w.heap.size, 0, none⟩) 1 1) (w.alloc (.cells #[.int .u32 x] 34)) := by kernel_rfl
theorem Ks_snoc (k : IntKind) (n : Nat) (z : Nat → Int) : Ks k (n + 1) z = Ks k n z ++ [.int k (z n)] := by
  unfold Ks; rw [List.range_succ, List.map_append]; rfl
theorem numGet_any (g : Nat) {T : TypeId} (z : Nat → Int) (hz : Byt z) (k o cap : Nat) (ho : o = 4 * k) (hk : k < 64) (w : World) (hB : Blk w g T 256 z) :
    Calls Tryd.prog 173 #[.slice (some ⟨g, o, none⟩) 4 cap] w fun e w' => e = .returned (.tuple #[.int .u32 (wd z k), .bool true]) ∧ w = w' := by
  have hs : Seg w g o 4 (fun j => z (o + j)) := by have := hB.seg.sub o 4 (by omega); rwa [Nat.zero_add] at this
  have hg := get32_yes g o 4 cap 0 _ w (by omega) (by decide) (by decide) hs (fun j => hz _)
  rw [show g32 (fun j => z (o + j)) (0 : Int).toNat = wd z k by unfold wd g32; subst ho; rfl] at hg
  have HG := Lib.hid hg
  clear hg hs ho
  go_enter Tryd.func173, Tryd.ntmps173
  go_wp2_with fail
  refine HG.out.mono ?_
  rintro e w1 ⟨rfl, rfl⟩
  go_wp2_with fail
  go_ret2
  exact ⟨rfl, rfl⟩

theorem run_sliceBlkEnd (g : Nat) (W : World) : (Instr.sliceAt 32 (.pointer (some ⟨g, 0, none⟩)) (some (.int .i64 256)) none none).run Tryd.prog W = .ok (.slice (some ⟨g, 0, none⟩) 0 0) W := by kernel_rfl
/-- what stands while rows are read -/
structure RnSt (w : World) (z : Nat → Int) (g cap k : Nat) (W : World) : Prop where
  b : Blk W w.heap.size 32 256 z
  own : W.ownsRow (w.heap.size + 1) 34 1 (.slice (some ⟨g, 0, none⟩) k cap) k (Ks .u32 k (revM z))
  bel : Below w.heap.size w W
theorem own_cell {W : World} {base g cap k : Nat} {e : TypeId} {kd : IntKind} {m : Nat → Int} (h : W.ownsRow base e 1 (.slice (some ⟨g, 0, none⟩) k cap) k (Ks kd k m)) (i : Nat) (hi : i < k) : W.cell? ⟨g, i, none⟩ = some (.int kd (m i)) := by
  rcases h.2 with ⟨hv, _⟩ | ⟨g', cap', cur, hv, _, hg, _, _, _, ht⟩
  · cases hv
  · injection hv with h1 h2 h3
    injection h1 with h1; injection h1 with h1
    subst h1
    refine cell_of_heap hg ?_
    have := Ks_get kd k m i hi
    rw [← ht, List.getElem?_take_of_lt (by omega)] at this
    simpa using this
theorem own_base {W : World} {base g cap k : Nat} {e : TypeId} {size : Nat} {xs : List Value} (h : W.ownsRow base e size (.slice (some ⟨g, 0, none⟩) k cap) k xs) : base ≤ g := by
  rcases h.2 with ⟨hv, _⟩ | ⟨g', cap', cur, hv, hb, _⟩
  · cases hv
  · injection hv with h1; injection h1 with h1; injection h1 with h1; omega
theorem own_form {W : World} {base k : Nat} {e : TypeId} {size : Nat} {v : Value} {xs : List Value} (h : W.ownsRow base e size v (k + 1) xs) : ∃ g cap, v = .slice (some ⟨g, 0, none⟩) (k + 1) cap := by
  rcases h.2 with ⟨_, h0⟩ | ⟨g', cap', cur, hv, _⟩
  · omega
  · exact ⟨g', cap', hv⟩
theorem own_mono {W : World} {base base' g cap k : Nat} {e : TypeId} {size : Nat} {xs : List Value} (h : W.ownsRow base e size (.slice (some ⟨g, 0, none⟩) k cap) k xs) (hb : base' ≤ base) : W.ownsRow base' e size (.slice (some ⟨g, 0, none⟩) k cap) k xs := by
  refine ⟨h.1, ?_⟩
  rcases h.2 with h' | ⟨g', cap', cur, hv, hbb, hr⟩
  · exact .inl h'
  · exact .inr ⟨g', cap', cur, hv, by omega, hr⟩
theorem rdNo {w w' : World} {z : Nat → Int} (h : revRd z = false) (hb : Below w.heap.size w w') : RevRead w z (.returned (.tuple #[.int .u32 0, .slice none 0 0, .int .i64 90])) w' := ⟨hb, .inl ⟨h, rfl⟩⟩

set_option maxRecDepth 100000 in
set_option maxHeartbeats 4000000 in
theorem readRowsN_any (z : Nat → Int) (hz : Byt z) (w : World) :
    Calls Tryd.prog 172 #[bval z, .int .u8 3, .int .i64 60, .int .i64 4, .func (.func 133) #[] #[], .func (.func 173) #[] #[]] w (RevRead w z) := by
  have hB := Blk.new w 32 256 z
  have hL : Below w.heap.size w (w.alloc (.cells (Ks .u8 256 z).toArray 32)) := (Below.refl _ _).alloc (Nat.le_refl _) _
  obtain ⟨hw30, hw31⟩ := wd_wds hz 3
  go_enter Tryd.func172, Tryd.ntmps172
  go_wp2_with (first | (refine wp_loadBlk rfl (.tmp 6) rfl w.heap.size z rfl hB ?_))
  refine (kind_any z hz _).mono ?_
  rintro e w1 ⟨rfl, hb1⟩
  have hB1 := hB.below hb1 hB.lt
  have hL1 : Below w.heap.size w w1 := hL.trans (hb1.mono hL.size)
  clear hB hL hb1
  go_wp2_with fail
  refine (numW w.heap.size z hz 3 12 rfl (by omega) _ hB1).mono ?_
  rintro e w2 ⟨rfl, rfl⟩
  by_cases hk : kindOf z = 3
  rotate_left
  · have q : (kindOf z != 3) = true := by simpa using hk
    have HN : Hid (revRd z = false) := by show _ = _; unfold revRd; simp [hk]
    clear hk
    generalize kindOf z = k at q ⊢
    go_wp2_with fail
    go_ret3
    exact rdNo HN.out hL1
  have HK := Lib.hid hk
  rw [hk]
  clear hk
  by_cases h1 : 1 ≤ wd z 3
  rotate_left
  · have HN : Hid (revRd z = false) := by show _ = _; unfold revRd; simp [h1]
    go_wp2_with fail
    go_ret3
    exact rdNo HN.out hL1
  by_cases h2 : wd z 3 ≤ 60
  rotate_left
  · have HN : Hid (revRd z = false) := by show _ = _; unfold revRd; simp [h2]
    go_wp2_with fail
    go_ret3
    exact rdNo HN.out hL1
  have hn : wd z 3 = (rowsN z : Int) := by unfold rowsN; omega
  have hn1 : 1 ≤ rowsN z := by omega
  have hn2 : rowsN z ≤ 60 := by omega
  have HSQ : Hid (seqOf z = wd z 2) := by
    show _ = _
    have := HK.out
    unfold kindOf at this
    unfold seqOf
    split at this
    · rename_i hkb; rw [if_pos hkb]
    · cases this
  have hrd : Hid (∀ (h : riseB (revM z) (rowsN z) = true) (h' : allZ (fun j => wd z (4 + rowsN z + j)) (60 - rowsN z) = true), revRd z = true) := fun h h' => by
    unfold revRd; rw [HK.out, h, h']; simp [h1, h2]
  have hrn : Hid (riseB (revM z) (rowsN z) = false → revRd z = false) := fun h => by unfold revRd; rw [h]; simp
  have hzn : Hid (allZ (fun j => wd z (4 + rowsN z + j)) (60 - rowsN z) = false → revRd z = false) := fun h => by unfold revRd; rw [h]; simp
  rw [hn]
  generalize hN : rowsN z = n at *
  have HN := Lib.hid hN
  clear hN hw30 hw31 h1 h2 hn HK
  obtain ⟨i0, hi, hz0, hz1, hz2⟩ := info_parts info_u32
  have hw1lt := hB1.lt
  go_wp2_with (first | (refine wpList_make_own _ rfl (.const (.int .i64 0)) (.tmp 43) 149 rfl (w.heap.size + 1) 34 i0 (.int .u32 0) 1 Tryd.underlying149 hi hz0 hz1 .i64 .i64 (n : Int) n rfl rfl rfl (by rw [hz2]; omega) (by unfold maxLen; omega) (by omega) ?_))
  intro w2 hown hg2
  have st2 : RnSt w z w1.heap.size n 0 w2 := ⟨(hg2.block _ hB1.lt (by simp)).trans hB1, hown, hL1.grown hg2 hL1.size (fun k e => by cases e)⟩
  clear hown hg2 hB1 hL1
  go_wp2_with fail
  go_loopw [18, 47] (fun v u wr => ∃ k g cap : Nat, k ≤ n ∧ u = .int .i64 (k : Int) ∧ v = .slice (some ⟨g, 0, none⟩) k cap ∧ Hid (riseB (revM z) k = true) ∧ RnSt w z g cap k wr) (fun _ u _ => n - (intOf u).toNat)
  case atStart => exact ⟨0, _, _, by omega, rfl, rfl, rfl, st2⟩
  case round =>
    clear st2
    obtain ⟨k, g, cap, hk, rfl, rfl, HRS, st⟩ := hrel
    by_cases hlt2 : k < n
    · obtain ⟨hm0, hm1⟩ := wd_wds hz (4 + k)
      have hsl := fun W => run_sliceBlk w.heap.size 0 (16 + 4 * k) (20 + 4 * k) (16 + (k : Int) * 4) (16 + (k : Int) * 4 + 4) (by omega) (by omega) (by omega) (by omega) (by omega) W
      simp only [Nat.zero_add, show 20 + 4 * k - (16 + 4 * k) = 4 by omega] at hsl
      by_cases hk0 : k = 0
      · have e5 : ¬ 0 < k := by omega
        have HRS1 : Hid (riseB (revM z) (k + 1) = true) := by show _ = _; rw [riseB_succ, HRS.out, hk0]; rfl
        clear hk0
        go_wp2_with fail
        refine (numGet_any w.heap.size z hz (4 + k) (16 + 4 * k) _ (by omega) (by omega) _ st.b).mono ?_
        rintro e w4 ⟨rfl, rfl⟩
        clear hsl
        have hbs := run_num1
        have hown' := World.ownsRow.alloc st.own (.cells #[.int .u32 (wd z (4 + k))] 34)
        have hgb := own_base st.own
        go_wp2_with (first | (refine wpList_append_own _ rfl (.tmp 83) (.tmp 85) 149 rfl (w.heap.size + 1) 34 i0 (.int .u32 0) 1 4 Tryd.underlying149 hi hz0 hz1 hz2 rfl (by decide) _ k _ rfl hown' ⟨wr.heap.size, 0, none⟩ 1 1 [.int .u32 (wd z (4 + k))] rfl rfl ?news1 ?one1 (by unfold maxLen; omega) (by omega) (by have := st.b.lt; simp; omega) ?rest1))
        case news1 =>
          intro j u hj
          rcases j with _ | j
          · cases hj; exact cell_of_heap (heap_alloc_new wr _) rfl
          · cases hj
        case one1 =>
          intro u hu
          simp only [List.mem_cons, List.not_mem_nil, or_false] at hu
          rw [hu]; rfl
        intro v' w6 hown6 hg6 _
        rw [show Ks .u32 k (revM z) ++ [.int .u32 (wd z (4 + k))] = Ks .u32 (k + 1) (revM z) from (Ks_snoc .u32 k (revM z)).symm] at hown6
        obtain ⟨g', cap', hv'⟩ := own_form hown6
        subst hv'
        have hblt := st.b.lt
        have st6 : RnSt w z g' cap' (k + 1) w6 := ⟨(hg6.block _ (st.b.alloc _).lt (by simp [Value.ownBlock]; omega)).trans (st.b.alloc _), hown6, (st.bel.alloc st.bel.size _).grown hg6 (st.bel.alloc st.bel.size _).size (fun j e => by simp [Value.ownBlock] at e; omega)⟩
        clear st hown' hown6 hg6 hbs
        go_wp2_with fail
        go_roundw
        case rel => first | exact ⟨k + 1, g', cap', by omega, by go_num, rfl, HRS1, st6⟩ | ((repeat apply Exists.intro); exact ⟨⟨k + 1, g', cap', by omega, by go_num, rfl, HRS1, st6⟩, rfl⟩)
        case measure => simp [intOf]; omega
      · have c1 : wr.cell? ⟨g, k - 1, none⟩ = some (.int .u32 (revM z (k - 1))) := own_cell st.own (k - 1) (by omega)
        have e2 : ((k : Int) - 1).toNat = k - 1 := by omega
        have e5 : 0 < k := by omega
        by_cases hri : revM z (k - 1) < wd z (4 + k)
        · have HRS1 : Hid (riseB (revM z) (k + 1) = true) := by show _ = _; rw [riseB_succ, HRS.out, decide_eq_true (show revM z (k - 1) < revM z k from hri)]; simp
          have d1 : decide (wd z (4 + k) ≤ revM z (k - 1)) = false := by simp; omega
          go_wp2_with fail
          refine (numGet_any w.heap.size z hz (4 + k) (16 + 4 * k) _ (by omega) (by omega) _ st.b).mono ?_
          rintro e w4 ⟨rfl, rfl⟩
          clear hsl
          go_wp2_with fail
          refine (numKey_any _ _).mono ?_
          rintro e w4 ⟨rfl, rfl⟩
          go_wp2_with fail
          refine (numKey_any _ _).mono ?_
          rintro e w5 ⟨rfl, rfl⟩
          clear c1 e2 d1
          have hbs := run_num1
          have hown' := World.ownsRow.alloc st.own (.cells #[.int .u32 (wd z (4 + k))] 34)
          have hgb := own_base st.own
          go_wp2_with (first | (refine wpList_append_own _ rfl (.tmp 83) (.tmp 85) 149 rfl (w.heap.size + 1) 34 i0 (.int .u32 0) 1 4 Tryd.underlying149 hi hz0 hz1 hz2 rfl (by decide) _ k _ rfl hown' ⟨wr.heap.size, 0, none⟩ 1 1 [.int .u32 (wd z (4 + k))] rfl rfl ?news2 ?one2 (by unfold maxLen; omega) (by omega) (by have := st.b.lt; simp; omega) ?rest2))
          case news2 =>
            intro j u hj
            rcases j with _ | j
            · cases hj; exact cell_of_heap (heap_alloc_new wr _) rfl
            · cases hj
          case one2 =>
            intro u hu
            simp only [List.mem_cons, List.not_mem_nil, or_false] at hu
            rw [hu]; rfl
          intro v' w6 hown6 hg6 _
          rw [show Ks .u32 k (revM z) ++ [.int .u32 (wd z (4 + k))] = Ks .u32 (k + 1) (revM z) from (Ks_snoc .u32 k (revM z)).symm] at hown6
          obtain ⟨g', cap', hv'⟩ := own_form hown6
          subst hv'
          have hblt := st.b.lt
          have st6 : RnSt w z g' cap' (k + 1) w6 := ⟨(hg6.block _ (st.b.alloc _).lt (by simp [Value.ownBlock]; omega)).trans (st.b.alloc _), hown6, (st.bel.alloc st.bel.size _).grown hg6 (st.bel.alloc st.bel.size _).size (fun j e => by simp [Value.ownBlock] at e; omega)⟩
          clear st hown' hown6 hg6 hbs
          go_wp2_with fail
          go_roundw
          case rel => first | exact ⟨k + 1, g', cap', by omega, by go_num, rfl, HRS1, st6⟩ | ((repeat apply Exists.intro); exact ⟨⟨k + 1, g', cap', by omega, by go_num, rfl, HRS1, st6⟩, rfl⟩)
          case measure => simp [intOf]; omega
        · have HO : Hid (revRd z = false) := hrn.out (riseB_no e5 hlt2 hri)
          have d1 : decide (wd z (4 + k) ≤ revM z (k - 1)) = true := by simp; omega
          go_wp2_with fail
          refine (numGet_any w.heap.size z hz (4 + k) (16 + 4 * k) _ (by omega) (by omega) _ st.b).mono ?_
          rintro e w4 ⟨rfl, rfl⟩
          clear hsl
          go_wp2_with fail
          refine (numKey_any _ _).mono ?_
          rintro e w4 ⟨rfl, rfl⟩
          go_wp2_with fail
          refine (numKey_any _ _).mono ?_
          rintro e w5 ⟨rfl, rfl⟩
          go_wp2_with fail
          go_ret3
          exact rdNo HO.out st.bel
    · obtain rfl : k = n := by omega
      have fin : Hid (∀ (h : allZ (fun j => wd z (4 + k + j)) (60 - k) = true), RevRead w z (.returned (.tuple #[.int .u32 (seqOf z), .slice (some ⟨g, 0, none⟩) k cap, .int .i64 0])) wr) := fun h => by
        refine ⟨st.bel, .inr ⟨hrd.out HRS.out h, g, cap, ?_, ?_⟩⟩
        · rw [HN.out, HSQ.out]
        · rw [HN.out]; exact own_mono st.own (by omega)
      by_cases h60 : k = 60
      · subst h60
        have hsl := fun W => run_sliceBlkEnd w.heap.size W
        have hz60 : Hid (allZ (fun j => wd z (4 + 60 + j)) (60 - 60) = true) := rfl
        go_wp2_with fail
        refine (zero_any _ 0 0 (fun _ => 0) _ (by omega) (.inl rfl)).mono ?_
        rintro e w3 ⟨rfl, rfl⟩
        rw [show allZ (fun _ => (0 : Int)) 0 = true from rfl]
        clear hsl
        go_wp2_with fail
        go_ret3
        exact fin.out hz60.out
      have hsl := fun W => run_sliceBlkFrom w.heap.size (16 + 4 * k) (16 + (k : Int) * 4) (by omega) (by omega) W
      have hrow : Hid (Row wr (some ⟨w.heap.size, 16 + 4 * k, none⟩) (256 - (16 + 4 * k)) (fun j => z (16 + 4 * k + j))) := .inr ⟨_, _, rfl, by have := st.b.seg.sub (16 + 4 * k) (256 - (16 + 4 * k)) (by omega); rwa [Nat.zero_add] at this⟩
      go_wp2_with fail
      refine (zero_any _ _ _ _ _ (by omega) (by exact hrow.out)).mono ?_
      rintro e w3 ⟨rfl, rfl⟩
      clear hsl hrow
      have HZ : Hid (allZ (fun j => z (16 + 4 * k + j)) (256 - (16 + 4 * k)) = allZ (fun j => wd z (4 + k + j)) (60 - k)) := by
        show _ = _
        have := allZ_wd hz (4 + k) (60 - k)
        rw [show 4 * (4 + k) = 16 + 4 * k by omega, show 4 * (60 - k) = 256 - (16 + 4 * k) by omega] at this
        exact this
      rw [HZ.out]
      cases hzz : allZ (fun j => wd z (4 + k + j)) (60 - k) with
      | true =>
        have FIN := fin.out hzz
        have HF := Lib.hid FIN
        clear hzz FIN fin
        go_wp2_with fail
        go_ret3
        exact HF.out
      | false =>
        have HO : Hid (revRd z = false) := hzn.out hzz
        clear hzz fin
        go_wp2_with fail
        go_ret3
        exact rdNo HO.out st.bel

set_option maxRecDepth 100000 in
theorem readRevoke_any (z : Nat → Int) (hz : Byt z) (w : World) : Calls Tryd.prog 157 #[bval z] w (RevRead w z) := by
  have hB := Blk.new w 32 256 z
  have hL : Below w.heap.size w (w.alloc (.cells (Ks .u8 256 z).toArray 32)) := (Below.refl _ _).alloc (Nat.le_refl _) _
  have HL := Lib.hid hL
  clear hL
  go_enter Tryd.func157, Tryd.ntmps157
  go_wp2_with (first | (refine wp_loadBlk rfl (.tmp 1) rfl w.heap.size z rfl hB ?_))
  refine (readRowsN_any z hz _).mono ?_
  rintro e w1 ⟨hb1, ⟨hr, rfl⟩ | ⟨hr, g, cap, rfl, hown⟩⟩
  · have hL1 : Below w.heap.size w w1 := HL.out.trans (hb1.mono HL.out.size)
    have HR := Lib.hid hr
    clear hr hb1 hB
    go_wp2_with fail
    go_ret3
    exact rdNo HR.out hL1
  · have hL1 : Below w.heap.size w w1 := HL.out.trans (hb1.mono HL.out.size)
    have hfin : RevRead w z (.returned (.tuple #[.int .u32 (wd z 2), .slice (some ⟨g, 0, none⟩) (rowsN z) cap, .int .i64 0])) w1 := ⟨hL1, .inr ⟨hr, g, cap, rfl, own_mono hown (by simp)⟩⟩
    have HF := Lib.hid hfin
    clear hr hb1 hB hown hfin hL1
    go_wp2_with fail
    go_ret3
    exact HF.out
end Go.Proofs.YtnbmmhoofilmfaaDoor

/- Contract of quernref09.SameNumbers; rows of tags of one's own. -/
namespace Go.Proofs.YtnbmmhoofilmfaaDoor
open Go.RowKit
set_option linter.unusedVariables false

/-- the cells of k tags -/
def Tc (tb : Nat → Int) (te : Nat → Bool) : Nat → List Value
  | 0 => []
  | k + 1 => Tc tb te k ++ [.int .u32 (tb k), .bool (te k)]
theorem Tc_length (tb : Nat → Int) (te : Nat → Bool) (k : Nat) : (Tc tb te k).length = k * 2 := by
  induction k with
  | zero => rfl
  | succ k ih => simp [Tc, ih]; omega
theorem Tc_get (tb : Nat → Int) (te : Nat → Bool) (k i : Nat) (hi : i < k) : (Tc tb te k)[i * 2]? = some (.int .u32 (tb i)) ∧ (Tc tb te k)[i * 2 + 1]? = some (.bool (te i)) := by
  induction k with
  | zero => omega
  | succ k ih =>
    unfold Tc
    by_cases h : i < k
    · obtain ⟨h1, h2⟩ := ih h
      rw [List.getElem?_append_left (by rw [Tc_length]; omega), List.getElem?_append_left (by rw [Tc_length]; omega)]
      exact ⟨h1, h2⟩
    · obtain rfl : i = k := by omega
      rw [List.getElem?_append_right (by rw [Tc_length]; omega), List.getElem?_append_right (by rw [Tc_length]; omega), Tc_length, Nat.sub_self, show i * 2 + 1 - i * 2 = 1 by omega]
      exact ⟨rfl, rfl⟩
theorem info_tag' : (Tryd.prog.info? 169).map (fun i => (i.zero, i.size, i.bytes)) = some (some (.agg #[.int .u32 0, .bool false]), 2, 8) := by kernel_rfl
theorem run_tag1 (x : Int) (b : Bool) (w : World) : (Instr.buildSlice 165 1 #[(0, .agg #[.int .u32 x, .bool b])]).run Tryd.prog w = .ok (.slice (some ⟨w.heap.size, 0, none⟩) 1 1) (w.alloc (.cells #[.int .u32 x, .bool b] 169)) := by kernel_rfl
theorem own_tags {W : World} {base k : Nat} {e : TypeId} {v : Value} {tb : Nat → Int} {te : Nat → Bool} (h : W.ownsRow base e 2 v k (Tc tb te k)) : ∃ a cap, v = .slice a k cap ∧ TagRow W a k tb te ∧ (∀ x, a = some x → base ≤ x.block ∧ x.block < W.heap.size) ∧ k ≤ cap := by
  rcases h.2 with ⟨rfl, rfl⟩ | ⟨g, cap, cur, rfl, hb, hg, hn, hc, hs, ht⟩
  · exact ⟨none, 0, rfl, .inl rfl, (fun x hx => by cases hx), Nat.le_refl _⟩
  · refine ⟨_, cap, rfl, .inr ⟨g, 0, rfl, fun i hi => ?_⟩, (fun x hx => by cases hx; exact ⟨hb, (Array.getElem?_eq_some_iff.1 hg).1⟩), hn⟩
    obtain ⟨h1, h2⟩ := Tc_get tb te k i hi
    rw [← ht, List.getElem?_take_of_lt (by omega)] at h1 h2
    rw [Nat.zero_add]
    exact ⟨cell_of_heap hg (by simpa using h1), cell_of_heap hg (by simpa using h2)⟩
theorem own_nums {W : World} {base k g cap : Nat} {e : TypeId} {m : Nat → Int} (h : W.ownsRow base e 1 (.slice (some ⟨g, 0, none⟩) k cap) k (Ks .u32 k m)) : NumRow W (some ⟨g, 0, none⟩) k m :=
  .inr ⟨g, 0, rfl, fun i hi => by rw [Nat.zero_add]; exact own_cell h i hi⟩
theorem NumRow.grown {w w' : World} {a : Option Addr} {n : Nat} {m : Nat → Int} {row : Option Nat} (h : NumRow w a n m) (hg : w.grownBy w' row) (hr : ∀ x, a = some x → 0 < n → some x.block ≠ row) : NumRow w' a n m := by
  rcases h with h | ⟨b, off, rfl, h⟩
  · exact .inl h
  · by_cases h0 : n = 0
    · exact .inl h0
    · refine .inr ⟨b, off, rfl, fun i hi => ?_⟩
      have hh := h i hi
      have hbl : w'.heap[b]? = w.heap[b]? := hg.block b (World.block_lt_of_cell? w _ hh) (hr _ rfl (by omega))
      exact (show w'.cell? ⟨b, off + i, none⟩ = w.cell? ⟨b, off + i, none⟩ from World.cell?_of_block (w := w) hbl).trans hh
theorem NumRow.block {w : World} {a : Option Addr} {n : Nat} {m : Nat → Int} (h : NumRow w a n m) (hn : 0 < n) : ∀ x, a = some x → x.block < w.heap.size := by
  rcases h with h | ⟨b, off, rfl, h⟩
  · omega
  · intro x hx; cases hx; exact h.lt hn
/-- a revoke block that was written is read -/
theorem revoke_law (s : Int) (n : Nat) (m : Nat → Int) (hm : Wds m) (h : revOk s n m = true) : revRd (revZ s n m) = true ∧ wd (revZ s n m) 2 = s ∧ rowsN (revZ s n m) = n ∧ (∀ i, i < n → revM (revZ s n m) i = m i) ∧ kindOf (revZ s n m) = 3 ∧ seqOf (revZ s n m) = s := by
  have h' := h
  unfold revOk at h'
  rw [Bool.and_eq_true, Bool.and_eq_true, decide_eq_true_eq] at h'
  obtain ⟨hs, hn, hr⟩ := h'
  have hsb : 1 ≤ s ∧ s ≤ 2147483648 := of_decide_eq_true hs
  have hz : revZ s n m = wz (jw 3 s n (numR m n)) := by unfold revZ; rw [h]; rfl
  have hW : Wds (jw 3 s n (numR m n)) := jw_wds (by decide) (by omega) (by omega) (fun k => by unfold numR; split; exact hm _; decide)
  have e : ∀ k, wd (revZ s n m) k = jw 3 s n (numR m n) k := fun k => by rw [hz]; exact wd_wz hW k
  have e0 : wd (revZ s n m) 0 = 1280199249 := e 0
  have e1 : wd (revZ s n m) 1 = 3 := e 1
  have e2 : wd (revZ s n m) 2 = s := e 2
  have e3 : wd (revZ s n m) 3 = n := e 3
  have hk : kindB (revZ s n m) = true := by unfold kindB; rw [e0, e1, e2, hs]; rfl
  have hk3 : kindOf (revZ s n m) = 3 := by unfold kindOf; rw [hk, e1]; rfl
  have hq : seqOf (revZ s n m) = s := by unfold seqOf; rw [hk, e2]; rfl
  have hN : rowsN (revZ s n m) = n := by unfold rowsN; rw [e3]; omega
  have hM : ∀ i, i < n → revM (revZ s n m) i = m i := fun i hi => by
    unfold revM
    rw [e]
    unfold jw numR
    rw [if_neg (by omega), if_neg (by omega), if_neg (by omega), if_neg (by omega), if_pos (by omega), show 4 + i - 4 = i by omega]
  refine ⟨?_, e2, hN, hM, hk3, hq⟩
  unfold revRd
  rw [hk3, e3, hN, riseB_congr hM, hr, decide_eq_true (show 1 ≤ (n : Int) ∧ (n : Int) ≤ 60 by omega)]
  simp only [beq_self_eq_true, Bool.true_and]
  rw [allZ_iff]
  intro j hj
  rw [e]
  unfold jw numR
  rw [if_neg (by omega), if_neg (by omega), if_neg (by omega), if_neg (by omega), if_neg (by omega)]
end Go.Proofs.YtnbmmhoofilmfaaDoor

/- The contract of jblock.readRows over tags, and of ReadDesc. -/
namespace Go.Proofs.YtnbmmhoofilmfaaDoor
open Go.RowKit
set_option linter.unusedVariables false

def descT (z : Nat → Int) : Nat → Int := fun i => wd z (4 + 2 * i)
def jdE (z : Nat → Int) : Nat → Bool := fun i => wd z (5 + 2 * i) == 1
/-- the first k rows are right -/
def descB (z : Nat → Int) : Nat → Bool
  | 0 => true
  | k + 1 => descB z k && (decide (wd z (5 + 2 * k) ≤ 1) && (k == 0 || decide (descT z (k - 1) < descT z k)))
theorem descB_succ (z : Nat → Int) (k : Nat) : descB z (k + 1) = (descB z k && (decide (wd z (5 + 2 * k) ≤ 1) && (k == 0 || decide (descT z (k - 1) < descT z k)))) := rfl
theorem descB_iff (z : Nat → Int) (n : Nat) : descB z n = true ↔ (∀ i, i < n → wd z (5 + 2 * i) ≤ 1) ∧ riseB (descT z) n = true := by
  induction n with
  | zero => simp [descB, riseB]
  | succ n ih =>
    rw [descB_succ, Bool.and_eq_true, ih, Bool.and_eq_true, decide_eq_true_eq, riseB_succ, Bool.and_eq_true]
    constructor
    · rintro ⟨⟨h1, h2⟩, h3, h4⟩
      refine ⟨fun i hi => ?_, h2, h4⟩
      by_cases e : i = n
      · subst e; exact h3
      · exact h1 i (by omega)
    · rintro ⟨h1, h2, h3⟩
      exact ⟨⟨fun i hi => h1 i (by omega), h2⟩, h1 n (by omega), h3⟩
theorem descB_no {z : Nat → Int} {n k : Nat} (hk : k < n) (h : descB z (k + 1) = false) : descB z n = false := by
  cases e : descB z n with
  | false => rfl
  | true =>
    obtain ⟨h1, h2⟩ := (descB_iff z n).1 e
    have : descB z (k + 1) = true := (descB_iff z (k + 1)).2 ⟨fun i hi => h1 i (by omega), (riseB_iff _ _).2 fun i h0 hi => (riseB_iff _ _).1 h2 i h0 (by omega)⟩
    rw [this] at h; cases h
def descRd (z : Nat → Int) : Bool := kindOf z == 1 && (decide (1 ≤ wd z 3 ∧ wd z 3 ≤ 30) && (descB z (rowsN z) && allZ (fun j => wd z (4 + 2 * rowsN z + j)) (60 - 2 * rowsN z)))
def DescRead (w : World) (z : Nat → Int) (e : Ending) (w' : World) : Prop :=
  Below w.heap.size w w' ∧ (descRd z = false ∧ e = .returned (.tuple #[.int .u32 0, .slice none 0 0, .int .i64 90]) ∨
    descRd z = true ∧ ∃ g cap, e = .returned (.tuple #[.int .u32 (wd z 2), .slice (some ⟨g, 0, none⟩) (rowsN z) cap, .int .i64 0]) ∧ w'.ownsRow w.heap.size 169 2 (.slice (some ⟨g, 0, none⟩) (rowsN z) cap) (rowsN z) (Tc (descT z) (jdE z) (rowsN z)))
theorem ddNo {w w' : World} {z : Nat → Int} (h : descRd z = false) (hb : Below w.heap.size w w') : DescRead w z (.returned (.tuple #[.int .u32 0, .slice none 0 0, .int .i64 90])) w' := ⟨hb, .inl ⟨h, rfl⟩⟩
theorem results_tag {fn : Func} {p u : Tmp} (h : fn.results = #[.cell p 169, .tmp u]) (tmps : Array Value) (w : World) (g : Nat) (b : Int) (x : Bool)
    (hp : tmps.getD p undef = .pointer (some ⟨g, 0, none⟩)) (hg : At w g 169 #[.int .u32 b, .bool x]) : (results fn tmps).run Tryd.prog w = .ok (.tuple #[.agg #[.int .u32 b, .bool x], tmps.getD u undef]) w :=
  results_row_tmp h tmps w g 169 _ (0, 0) _ hp hg Tryd.underlying169 rfl (info_tag _ _)
theorem one_tag (b : Int) (x : Bool) : (#[Value.int .u32 b, .bool x] : Array Value).all (·.oneCell') = true := by simp [Value.oneCell']

set_option maxRecDepth 100000 in
theorem tagGet_any (g : Nat) {T : TypeId} (z : Nat → Int) (hz : Byt z) (k o cap : Nat) (ho : o = 4 * (4 + 2 * k)) (hk : k < 30) (w : World) (hB : Blk w g T 256 z) :
    Calls Tryd.prog 171 #[.slice (some ⟨g, o, none⟩) 8 cap] w fun e w' => e = .returned (.tuple #[.agg #[.int .u32 (descT z k), .bool (jdE z k)], .bool (decide (wd z (5 + 2 * k) ≤ 1))]) ∧ Below w.heap.size w w' := by
  have hB0 : Blk (w.alloc (.cells #[.int .u32 0, .bool false] 169)) g T 256 z := hB.alloc _
  have hs : Seg (w.alloc (.cells #[.int .u32 0, .bool false] 169)) g o 8 (fun j => z (o + j)) := by have := hB0.seg.sub o 8 (by omega); rwa [Nat.zero_add] at this
  have hg0 := get32_yes g o 8 cap 0 _ _ (by omega) (by decide) (by decide) hs (fun j => hz _)
  have hg4 := get32_yes g o 8 cap 4 _ _ (by omega) (by decide) (by decide) hs (fun j => hz _)
  rw [show g32 (fun j => z (o + j)) (0 : Int).toNat = descT z k by unfold descT wd g32; subst ho; rfl] at hg0
  rw [show g32 (fun j => z (o + j)) (4 : Int).toNat = wd z (5 + 2 * k) by unfold wd g32; subst ho; rw [show 4 * (5 + 2 * k) = 4 * (4 + 2 * k) + 4 by omega]; rfl] at hg4
  have H0 := Lib.hid hg0
  have H4 := Lib.hid hg4
  have hA : Hid (At (w.alloc (.cells #[.int .u32 0, .bool false] 169)) w.heap.size 169 #[.int .u32 0, .bool false]) := At.new _ _ _
  have hL : Hid (Below w.heap.size w (w.alloc (.cells #[.int .u32 0, .bool false] 169))) := (Below.refl _ _).alloc (Nat.le_refl _) _
  have hbd := wd_wds hz (5 + 2 * k)
  have he : (jdE z k) = (wd z (5 + 2 * k) == 1) := rfl
  have HE := Lib.hid he
  clear hg0 hg4 hs ho hB hB0 he
  have hal := zero_tag
  generalize descT z k = d at *
  generalize jdE z k = x at *
  generalize wd z (5 + 2 * k) = v at *
  go_enter Tryd.func171, Tryd.ntmps171
  go_wp2_with fail
  refine H0.out.mono ?_
  rintro e w1 ⟨rfl, hw1⟩
  rw [← hw1]
  clear hw1 H0
  go_wp2_with fail
  refine (H4.out.mono (R' := fun e w' => e = .returned (.tuple #[.int .u32 v, .bool true]) ∧ At w' w.heap.size 169 #[.int .u32 0, .bool false] ∧ Below w.heap.size w w') (fun e w' h => ⟨h.1, h.2 ▸ hA.out, h.2 ▸ hL.out⟩)).mono ?_
  rintro e w2 ⟨rfl, hA2, hL2⟩
  clear H4 hA hL
  have HX : Hid ((v == 1) = x) := HE.out.symm
  obtain ⟨hv0, hv1⟩ := hbd
  cases hx : (v == 1) with
  | true =>
    have HV : Hid (decide (v ≤ 1) = true) := by show _ = _; have := beq_iff_eq.1 hx; simp [this]
    have HXX : Hid (x = true) := HX.out.symm.trans hx
    have d := HV.out
    go_wp2_with (first | (refine wp_storeAt rfl 169 (.tmp 2) (.tmp 21) rfl w.heap.size _ _ rfl rfl hA2 (info_tag _ _) rfl (one_tag _ _) ?_))
    intro w3 hA3 ho3
    go_wp2_with fail
    refine bodyPost_ret (results_tag rfl _ _ w.heap.size _ _ rfl hA3) rfl ⟨?_, hL2.trans (ho3.below (Nat.le_refl _))⟩
    rw [HXX.out]
    first | rfl | (simp [HV.out]) | (rw [HV.out]; rfl)
  | false =>
    have HXX : Hid (x = false) := HX.out.symm.trans hx
    go_wp2_with (first | (refine wp_storeAt rfl 169 (.tmp 2) (.tmp 21) rfl w.heap.size _ _ rfl rfl hA2 (info_tag _ _) rfl (one_tag _ _) ?_))
    intro w3 hA3 ho3
    go_wp2_with fail
    refine bodyPost_ret (results_tag rfl _ _ w.heap.size _ _ rfl hA3) rfl ⟨?_, hL2.trans (ho3.below (Nat.le_refl _))⟩
    rw [HXX.out]
    rfl
end Go.Proofs.YtnbmmhoofilmfaaDoor
