/- The contract of jblock.readRows over numbers, and of ReadRevoke. -/
import Derived.Test.YthkalmdpbhjafaaDoorJb6
import Derived.Laws.OwnMore
namespace Go.Proofs.YthkalmdpbhjafaaDoor
open Go.RowKit
set_option linter.unusedVariables false

/-- how many rows a block tells -/
def rowsN (z : Nat → Int) : Nat := (wd z 3).toNat
def revM (z : Nat → Int) : Nat → Int := fun i => wd z (4 + i)
def revRd (z : Nat → Int) : Bool := kindOf z == 3 && (decide (1 ≤ wd z 3 ∧ wd z 3 ≤ 60) && (riseB (revM z) (rowsN z) && allZ (fun j => wd z (4 + rowsN z + j)) (60 - rowsN z)))
/-- what ReadRevoke answers -/
def RevRead (w : World) (z : Nat → Int) (e : Ending) (w' : World) : Prop :=
  Below w.heap.size w w' ∧ (revRd z = false ∧ e = .returned (.tuple #[.int .u32 0, .slice none 0 0, .int .i64 90]) ∨
    revRd z = true ∧ ∃ g cap, e = .returned (.tuple #[.int .u32 (wd z 2), .slice (some ⟨g, 0, none⟩) (rowsN z) cap, .int .i64 0]) ∧ w'.ownsRow w.heap.size 22 1 (.slice (some ⟨g, 0, none⟩) (rowsN z) cap) (rowsN z) (Ks .u32 (rowsN z) (revM z)))
theorem info_u32 : (Tryd.prog.info? 22).map (fun i => (i.zero, i.size, i.bytes)) = some (some (.int .u32 0), 1, 4) := by kernel_rfl
theorem run_num1 (x : Int) (w : World) : (Instr.buildSlice 70 1 #[(0, .int .u32 x)]).run Tryd.prog w = .ok (.slice (some ⟨w.heap.size, 0, none⟩) 1 1) (w.alloc (.cells #[.int .u32 x] 22)) := by kernel_rfl
theorem Ks_snoc (k : IntKind) (n : Nat) (z : Nat → Int) : Ks k (n + 1) z = Ks k n z ++ [.int k (z n)] := by
  unfold Ks; rw [List.range_succ, List.map_append]; rfl
theorem numGet_any (g : Nat) {T : TypeId} (z : Nat → Int) (hz : Byt z) (k o cap : Nat) (ho : o = 4 * k) (hk : k < 64) (w : World) (hB : Blk w g T 256 z) :
    Calls Tryd.prog 69 #[.slice (some ⟨g, o, none⟩) 4 cap] w fun e w' => e = .returned (.tuple #[.int .u32 (wd z k), .bool true]) ∧ w = w' := by
  have hs : Seg w g o 4 (fun j => z (o + j)) := by have := hB.seg.sub o 4 (by omega); rwa [Nat.zero_add] at this
  have hg := get32_yes g o 4 cap 0 _ w (by omega) (by decide) (by decide) hs (fun j => hz _)
  rw [show g32 (fun j => z (o + j)) (0 : Int).toNat = wd z k by unfold wd g32; subst ho; rfl] at hg
  have HG := Lib.hid hg
  clear hg hs ho
  go_enter Tryd.func69, Tryd.ntmps69
  go_wp2_with fail
  refine HG.out.mono ?_
  rintro e w1 ⟨rfl, rfl⟩
  go_wp2_with fail
  go_ret2
  exact ⟨rfl, rfl⟩

theorem run_sliceBlkEnd (g : Nat) (W : World) : (Instr.sliceAt 40 (.pointer (some ⟨g, 0, none⟩)) (some (.int .i64 256)) none none).run Tryd.prog W = .ok (.slice (some ⟨g, 0, none⟩) 0 0) W := by kernel_rfl
/-- what stands while rows are read -/
structure RnSt (w : World) (z : Nat → Int) (g cap k : Nat) (W : World) : Prop where
  b : Blk W w.heap.size 40 256 z
  own : W.ownsRow (w.heap.size + 1) 22 1 (.slice (some ⟨g, 0, none⟩) k cap) k (Ks .u32 k (revM z))
  bel : Below w.heap.size w W
theorem own_cell {W : World} {base g cap k : Nat} {e : TypeId} {kd : IntKind} {m : Nat → Int} (h : W.ownsRow base e 1 (.slice (some ⟨g, 0, none⟩) k cap) k (Ks kd k m)) (i : Nat) (hi : i < k) : W.cell? ⟨g, i, none⟩ = some (.int kd (m i)) := by
  rcases h.2 with ⟨hv, _⟩ | ⟨g', cap', cur, hv, _, hg, _, _, _, ht⟩
  · cases hv
  · injection hv with h1 h2 h3
    injection h1 with h1; injection h1 with h1
    subst h1
    refine cell_of_heap hg ?_
    have := Ks_get kd k m i hi
    rw [← ht, List.getElem?_take_of_lt (by omega)] at this
    simpa using this
theorem own_base {W : World} {base g cap k : Nat} {e : TypeId} {size : Nat} {xs : List Value} (h : W.ownsRow base e size (.slice (some ⟨g, 0, none⟩) k cap) k xs) : base ≤ g := by
  rcases h.2 with ⟨hv, _⟩ | ⟨g', cap', cur, hv, hb, _⟩
  · cases hv
  · injection hv with h1; injection h1 with h1; injection h1 with h1; omega
theorem own_form {W : World} {base k : Nat} {e : TypeId} {size : Nat} {v : Value} {xs : List Value} (h : W.ownsRow base e size v (k + 1) xs) : ∃ g cap, v = .slice (some ⟨g, 0, none⟩) (k + 1) cap := by
  rcases h.2 with ⟨_, h0⟩ | ⟨g', cap', cur, hv, _⟩
  · omega
  · exact ⟨g', cap', hv⟩
theorem own_mono {W : World} {base base' g cap k : Nat} {e : TypeId} {size : Nat} {xs : List Value} (h : W.ownsRow base e size (.slice (some ⟨g, 0, none⟩) k cap) k xs) (hb : base' ≤ base) : W.ownsRow base' e size (.slice (some ⟨g, 0, none⟩) k cap) k xs := by
  refine ⟨h.1, ?_⟩
  rcases h.2 with h' | ⟨g', cap', cur, hv, hbb, hr⟩
  · exact .inl h'
  · exact .inr ⟨g', cap', cur, hv, by omega, hr⟩
theorem rdNo {w w' : World} {z : Nat → Int} (h : revRd z = false) (hb : Below w.heap.size w w') : RevRead w z (.returned (.tuple #[.int .u32 0, .slice none 0 0, .int .i64 90])) w' := ⟨hb, .inl ⟨h, rfl⟩⟩

set_option maxRecDepth 100000 in
set_option maxHeartbeats 4000000 in
theorem readRowsN_any (z : Nat → Int) (hz : Byt z) (w : World) :
    Calls Tryd.prog 67 #[bval z, .int .u8 3, .int .i64 60, .int .i64 4, .func (.func 68) #[] #[], .func (.func 69) #[] #[]] w (RevRead w z) := by
  have hB := Blk.new w 40 256 z
  have hL : Below w.heap.size w (w.alloc (.cells (Ks .u8 256 z).toArray 40)) := (Below.refl _ _).alloc (Nat.le_refl _) _
  obtain ⟨hw30, hw31⟩ := wd_wds hz 3
  go_enter Tryd.func67, Tryd.ntmps67
  go_wp2_with (first | (refine wp_loadBlk rfl (.tmp 6) rfl w.heap.size z rfl hB ?_))
  refine (kind_any z hz _).mono ?_
  rintro e w1 ⟨rfl, hb1⟩
  have hB1 := hB.below hb1 hB.lt
  have hL1 : Below w.heap.size w w1 := hL.trans (hb1.mono hL.size)
  clear hB hL hb1
  go_wp2_with fail
  refine (numW w.heap.size z hz 3 12 rfl (by omega) _ hB1).mono ?_
  rintro e w2 ⟨rfl, rfl⟩
  by_cases hk : kindOf z = 3
  rotate_left
  · have q : (kindOf z != 3) = true := by simpa using hk
    have HN : Hid (revRd z = false) := by show _ = _; unfold revRd; simp [hk]
    clear hk
    generalize kindOf z = k at q ⊢
    go_wp2_with fail
    go_ret3
    exact rdNo HN.out hL1
  have HK := Lib.hid hk
  rw [hk]
  clear hk
  by_cases h1 : 1 ≤ wd z 3
  rotate_left
  · have HN : Hid (revRd z = false) := by show _ = _; unfold revRd; simp [h1]
    go_wp2_with fail
    go_ret3
    exact rdNo HN.out hL1
  by_cases h2 : wd z 3 ≤ 60
  rotate_left
  · have HN : Hid (revRd z = false) := by show _ = _; unfold revRd; simp [h2]
    go_wp2_with fail
    go_ret3
    exact rdNo HN.out hL1
  have hn : wd z 3 = (rowsN z : Int) := by unfold rowsN; omega
  have hn1 : 1 ≤ rowsN z := by omega
  have hn2 : rowsN z ≤ 60 := by omega
  have HSQ : Hid (seqOf z = wd z 2) := by
    show _ = _
    have := HK.out
    unfold kindOf at this
    unfold seqOf
    split at this
    · rename_i hkb; rw [if_pos hkb]
    · cases this
  have hrd : Hid (∀ (h : riseB (revM z) (rowsN z) = true) (h' : allZ (fun j => wd z (4 + rowsN z + j)) (60 - rowsN z) = true), revRd z = true) := fun h h' => by
    unfold revRd; rw [HK.out, h, h']; simp [h1, h2]
  have hrn : Hid (riseB (revM z) (rowsN z) = false → revRd z = false) := fun h => by unfold revRd; rw [h]; simp
  have hzn : Hid (allZ (fun j => wd z (4 + rowsN z + j)) (60 - rowsN z) = false → revRd z = false) := fun h => by unfold revRd; rw [h]; simp
  rw [hn]
  generalize hN : rowsN z = n at *
  have HN := Lib.hid hN
  clear hN hw30 hw31 h1 h2 hn HK
  obtain ⟨i0, hi, hz0, hz1, hz2⟩ := info_parts info_u32
  have hw1lt := hB1.lt
  go_wp2_with (first | (refine wpList_make_own _ rfl (.const (.int .i64 0)) (.tmp 43) 70 rfl (w.heap.size + 1) 22 i0 (.int .u32 0) 1 Tryd.underlying70 hi hz0 hz1 .i64 .i64 (n : Int) n rfl rfl rfl (by rw [hz2]; omega) (by unfold maxLen; omega) (by omega) ?_))
  intro w2 hown hg2
  have st2 : RnSt w z w1.heap.size n 0 w2 := ⟨(hg2.block _ hB1.lt (by simp)).trans hB1, hown, hL1.grown hg2 hL1.size (fun k e => by cases e)⟩
  clear hown hg2 hB1 hL1
  go_wp2_with fail
  go_loopw [18, 47] (fun v u wr => ∃ k g cap : Nat, k ≤ n ∧ u = .int .i64 (k : Int) ∧ v = .slice (some ⟨g, 0, none⟩) k cap ∧ Hid (riseB (revM z) k = true) ∧ RnSt w z g cap k wr) (fun _ u _ => n - (intOf u).toNat)
  case atStart => exact ⟨0, _, _, by omega, rfl, rfl, rfl, st2⟩
  case round =>
    clear st2
    obtain ⟨k, g, cap, hk, rfl, rfl, HRS, st⟩ := hrel
    by_cases hlt2 : k < n
    · obtain ⟨hm0, hm1⟩ := wd_wds hz (4 + k)
      have hsl := fun W => run_sliceBlk w.heap.size 0 (16 + 4 * k) (20 + 4 * k) (16 + (k : Int) * 4) (16 + (k : Int) * 4 + 4) (by omega) (by omega) (by omega) (by omega) (by omega) W
      simp only [Nat.zero_add, show 20 + 4 * k - (16 + 4 * k) = 4 by omega] at hsl
      by_cases hk0 : k = 0
      · have e5 : ¬ 0 < k := by omega
        have HRS1 : Hid (riseB (revM z) (k + 1) = true) := by show _ = _; rw [riseB_succ, HRS.out, hk0]; rfl
        clear hk0
        go_wp2_with fail
        refine (numGet_any w.heap.size z hz (4 + k) (16 + 4 * k) _ (by omega) (by omega) _ st.b).mono ?_
        rintro e w4 ⟨rfl, rfl⟩
        clear hsl
        have hbs := run_num1
        have hown' := World.ownsRow.alloc st.own (.cells #[.int .u32 (wd z (4 + k))] 22)
        have hgb := own_base st.own
        go_wp2_with (first | (refine wpList_append_own _ rfl (.tmp 83) (.tmp 85) 70 rfl (w.heap.size + 1) 22 i0 (.int .u32 0) 1 4 Tryd.underlying70 hi hz0 hz1 hz2 rfl (by decide) _ k _ rfl hown' ⟨wr.heap.size, 0, none⟩ 1 1 [.int .u32 (wd z (4 + k))] rfl rfl ?news1 ?one1 (by unfold maxLen; omega) (by omega) (by have := st.b.lt; simp; omega) ?rest1))
        case news1 =>
          intro j u hj
          rcases j with _ | j
          · cases hj; exact cell_of_heap (heap_alloc_new wr _) rfl
          · cases hj
        case one1 =>
          intro u hu
          simp only [List.mem_cons, List.not_mem_nil, or_false] at hu
          rw [hu]; rfl
        intro v' w6 hown6 hg6 _
        rw [show Ks .u32 k (revM z) ++ [.int .u32 (wd z (4 + k))] = Ks .u32 (k + 1) (revM z) from (Ks_snoc .u32 k (revM z)).symm] at hown6
        obtain ⟨g', cap', hv'⟩ := own_form hown6
        subst hv'
        have hblt := st.b.lt
        have st6 : RnSt w z g' cap' (k + 1) w6 := ⟨(hg6.block _ (st.b.alloc _).lt (by simp [Value.ownBlock]; omega)).trans (st.b.alloc _), hown6, (st.bel.alloc st.bel.size _).grown hg6 (st.bel.alloc st.bel.size _).size (fun j e => by simp [Value.ownBlock] at e; omega)⟩
        clear st hown' hown6 hg6 hbs
        go_wp2_with fail
        go_roundw
        case rel => first | exact ⟨k + 1, g', cap', by omega, by go_num, rfl, HRS1, st6⟩ | ((repeat apply Exists.intro); exact ⟨⟨k + 1, g', cap', by omega, by go_num, rfl, HRS1, st6⟩, rfl⟩)
        case measure => simp [intOf]; omega
      · have c1 : wr.cell? ⟨g, k - 1, none⟩ = some (.int .u32 (revM z (k - 1))) := own_cell st.own (k - 1) (by omega)
        have e2 : ((k : Int) - 1).toNat = k - 1 := by omega
        have e5 : 0 < k := by omega
        by_cases hri : revM z (k - 1) < wd z (4 + k)
        · have HRS1 : Hid (riseB (revM z) (k + 1) = true) := by show _ = _; rw [riseB_succ, HRS.out, decide_eq_true (show revM z (k - 1) < revM z k from hri)]; simp
          have d1 : decide (wd z (4 + k) ≤ revM z (k - 1)) = false := by simp; omega
          go_wp2_with fail
          refine (numGet_any w.heap.size z hz (4 + k) (16 + 4 * k) _ (by omega) (by omega) _ st.b).mono ?_
          rintro e w4 ⟨rfl, rfl⟩
          clear hsl
          go_wp2_with fail
          refine (numKey_any _ _).mono ?_
          rintro e w4 ⟨rfl, rfl⟩
          go_wp2_with fail
          refine (numKey_any _ _).mono ?_
          rintro e w5 ⟨rfl, rfl⟩
          clear c1 e2 d1
          have hbs := run_num1
          have hown' := World.ownsRow.alloc st.own (.cells #[.int .u32 (wd z (4 + k))] 22)
          have hgb := own_base st.own
          go_wp2_with (first | (refine wpList_append_own _ rfl (.tmp 83) (.tmp 85) 70 rfl (w.heap.size + 1) 22 i0 (.int .u32 0) 1 4 Tryd.underlying70 hi hz0 hz1 hz2 rfl (by decide) _ k _ rfl hown' ⟨wr.heap.size, 0, none⟩ 1 1 [.int .u32 (wd z (4 + k))] rfl rfl ?news2 ?one2 (by unfold maxLen; omega) (by omega) (by have := st.b.lt; simp; omega) ?rest2))
          case news2 =>
            intro j u hj
            rcases j with _ | j
            · cases hj; exact cell_of_heap (heap_alloc_new wr _) rfl
            · cases hj
          case one2 =>
            intro u hu
            simp only [List.mem_cons, List.not_mem_nil, or_false] at hu
            rw [hu]; rfl
          intro v' w6 hown6 hg6 _
          rw [show Ks .u32 k (revM z) ++ [.int .u32 (wd z (4 + k))] = Ks .u32 (k + 1) (revM z) from (Ks_snoc .u32 k (revM z)).symm] at hown6
          obtain ⟨g', cap', hv'⟩ := own_form hown6
          subst hv'
          have hblt := st.b.lt
          have st6 : RnSt w z g' cap' (k + 1) w6 := ⟨(hg6.block _ (st.b.alloc _).lt (by simp [Value.ownBlock]; omega)).trans (st.b.alloc _), hown6, (st.bel.alloc st.bel.size _).grown hg6 (st.bel.alloc st.bel.size _).size (fun j e => by simp [Value.ownBlock] at e; omega)⟩
          clear st hown' hown6 hg6 hbs
          go_wp2_with fail
          go_roundw
          case rel => first | exact ⟨k + 1, g', cap', by omega, by go_num, rfl, HRS1, st6⟩ | ((repeat apply Exists.intro); exact ⟨⟨k + 1, g', cap', by omega, by go_num, rfl, HRS1, st6⟩, rfl⟩)
          case measure => simp [intOf]; omega
        · have HO : Hid (revRd z = false) := hrn.out (riseB_no e5 hlt2 hri)
          have d1 : decide (wd z (4 + k) ≤ revM z (k - 1)) = true := by simp; omega
          go_wp2_with fail
          refine (numGet_any w.heap.size z hz (4 + k) (16 + 4 * k) _ (by omega) (by omega) _ st.b).mono ?_
          rintro e w4 ⟨rfl, rfl⟩
          clear hsl
          go_wp2_with fail
          refine (numKey_any _ _).mono ?_
          rintro e w4 ⟨rfl, rfl⟩
          go_wp2_with fail
          refine (numKey_any _ _).mono ?_
          rintro e w5 ⟨rfl, rfl⟩
          go_wp2_with fail
          go_ret3
          exact rdNo HO.out st.bel
    · obtain rfl : k = n := by omega
      have fin : Hid (∀ (h : allZ (fun j => wd z (4 + k + j)) (60 - k) = true), RevRead w z (.returned (.tuple #[.int .u32 (seqOf z), .slice (some ⟨g, 0, none⟩) k cap, .int .i64 0])) wr) := fun h => by
        refine ⟨st.bel, .inr ⟨hrd.out HRS.out h, g, cap, ?_, ?_⟩⟩
        · rw [HN.out, HSQ.out]
        · rw [HN.out]; exact own_mono st.own (by omega)
      by_cases h60 : k = 60
      · subst h60
        have hsl := fun W => run_sliceBlkEnd w.heap.size W
        have hz60 : Hid (allZ (fun j => wd z (4 + 60 + j)) (60 - 60) = true) := rfl
        go_wp2_with fail
        refine (zero_any _ 0 0 (fun _ => 0) _ (by omega) (.inl rfl)).mono ?_
        rintro e w3 ⟨rfl, rfl⟩
        rw [show allZ (fun _ => (0 : Int)) 0 = true from rfl]
        clear hsl
        go_wp2_with fail
        go_ret3
        exact fin.out hz60.out
      have hsl := fun W => run_sliceBlkFrom w.heap.size (16 + 4 * k) (16 + (k : Int) * 4) (by omega) (by omega) W
      have hrow : Hid (Row wr (some ⟨w.heap.size, 16 + 4 * k, none⟩) (256 - (16 + 4 * k)) (fun j => z (16 + 4 * k + j))) := .inr ⟨_, _, rfl, by have := st.b.seg.sub (16 + 4 * k) (256 - (16 + 4 * k)) (by omega); rwa [Nat.zero_add] at this⟩
      go_wp2_with fail
      refine (zero_any _ _ _ _ _ (by omega) (by exact hrow.out)).mono ?_
      rintro e w3 ⟨rfl, rfl⟩
      clear hsl hrow
      have HZ : Hid (allZ (fun j => z (16 + 4 * k + j)) (256 - (16 + 4 * k)) = allZ (fun j => wd z (4 + k + j)) (60 - k)) := by
        show _ = _
        have := allZ_wd hz (4 + k) (60 - k)
        rw [show 4 * (4 + k) = 16 + 4 * k by omega, show 4 * (60 - k) = 256 - (16 + 4 * k) by omega] at this
        exact this
      rw [HZ.out]
      cases hzz : allZ (fun j => wd z (4 + k + j)) (60 - k) with
      | true =>
        have FIN := fin.out hzz
        have HF := Lib.hid FIN
        clear hzz FIN fin
        go_wp2_with fail
        go_ret3
        exact HF.out
      | false =>
        have HO : Hid (revRd z = false) := hzn.out hzz
        clear hzz fin
        go_wp2_with fail
        go_ret3
        exact rdNo HO.out st.bel

set_option maxRecDepth 100000 in
theorem readRevoke_any (z : Nat → Int) (hz : Byt z) (w : World) : Calls Tryd.prog 42 #[bval z] w (RevRead w z) := by
  have hB := Blk.new w 40 256 z
  have hL : Below w.heap.size w (w.alloc (.cells (Ks .u8 256 z).toArray 40)) := (Below.refl _ _).alloc (Nat.le_refl _) _
  have HL := Lib.hid hL
  clear hL
  go_enter Tryd.func42, Tryd.ntmps42
  go_wp2_with (first | (refine wp_loadBlk rfl (.tmp 1) rfl w.heap.size z rfl hB ?_))
  refine (readRowsN_any z hz _).mono ?_
  rintro e w1 ⟨hb1, ⟨hr, rfl⟩ | ⟨hr, g, cap, rfl, hown⟩⟩
  · have hL1 : Below w.heap.size w w1 := HL.out.trans (hb1.mono HL.out.size)
    have HR := Lib.hid hr
    clear hr hb1 hB
    go_wp2_with fail
    go_ret3
    exact rdNo HR.out hL1
  · have hL1 : Below w.heap.size w w1 := HL.out.trans (hb1.mono HL.out.size)
    have hfin : RevRead w z (.returned (.tuple #[.int .u32 (wd z 2), .slice (some ⟨g, 0, none⟩) (rowsN z) cap, .int .i64 0])) w1 := ⟨hL1, .inr ⟨hr, g, cap, rfl, own_mono hown (by simp)⟩⟩
    have HF := Lib.hid hfin
    clear hr hb1 hB hown hfin hL1
    go_wp2_with fail
    go_ret3
    exact HF.out
end Go.Proofs.YthkalmdpbhjafaaDoor
