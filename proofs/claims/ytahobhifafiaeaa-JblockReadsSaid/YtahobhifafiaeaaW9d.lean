/- The walk of the law JblockRows. -/
import Derived.Test.YtahobhifafiaeaaSame9
import Derived.Test.YtahobhifafiaeaaAwake9
namespace Go.Proofs.Ytahobhifafiaeaa
open Go.RowKit
set_option linter.unusedVariables false

structure RwSt (w : World) (a : Option Addr) (n : Nat) (m : Nat → Int) (k : Nat) (v : Value) (W : World) : Prop where
  own : W.ownsRow w.heap.size 69 2 v k (Tc m (fun _ => false) k)
  num : NumRow W a n m
  bel : Below w.heap.size w W

theorem own_block {W : World} {base k : Nat} {e : TypeId} {size : Nat} {v : Value} {xs : List Value} (h : W.ownsRow base e size v k xs) : ∀ r, v.ownBlock = some r → base ≤ r := by
  intro r hr
  rcases h.2 with ⟨rfl, _⟩ | ⟨g, cap, cur, rfl, hb, _⟩
  · cases hr
  · simp [Value.ownBlock] at hr; omega
theorem num_cell {W : World} {b off n : Nat} {m : Nat → Int} (h : NumRow W (some ⟨b, off, none⟩) n m) (i : Nat) (hi : i < n) : W.cell? ⟨b, off + i, none⟩ = some (.int .u32 (m i)) := by
  rcases h with h | ⟨b', off', he, h⟩
  · omega
  · cases he; exact h i hi
theorem num_take {W : World} {b off n k : Nat} {m : Nat → Int} (h : NumRow W (some ⟨b, off, none⟩) n m) (hk : k ≤ n) : NumRow W (some ⟨b, off, none⟩) k m := by
  by_cases h0 : k = 0
  · exact .inl h0
  · exact .inr ⟨b, off, rfl, fun i hi => num_cell h i (by omega)⟩
theorem revZ_byt (s : Int) (n : Nat) (m : Nat → Int) : Byt (revZ s n m) := by
  unfold revZ
  split
  · exact wz_byt _
  · intro i; show (0 : Int) ≤ 0 ∧ (0 : Int) < 256; decide
theorem run_numsHigh (b off n cap k : Nat) (K : Int) (hK : K = (k : Int)) (hk : k ≤ n) (hc : n ≤ cap) (W : World) :
    (Instr.slice 26 (.slice (some ⟨b, off, none⟩) n cap) none (some (.int .i64 K)) none).run Try.prog W = .ok (.slice (some ⟨b, off, none⟩) k cap) W := by
  subst hK
  have hsz : (sizeOf 22).run Try.prog W = .ok 1 W := by kernel_rfl
  rw [run_slice_h W 26 (some ⟨b, off, none⟩) n cap (by kernel_rfl) .i64 (k : Int) (by omega) (by omega), show Try.prog.elem 26 = 22 from by kernel_rfl, hsz]
  simp only [Result.andThen, sliced, Int.toNat_natCast, Nat.zero_mul, Nat.sub_zero, Option.map_some, addr_add, Nat.add_zero, ite_self]
/-- what a slice of numbers that came in is -/
theorem nums_of {w : World} {a : Option Addr} {len cap : Nat} {zs : List Int}
    (h : (a = none ∧ len = 0 ∧ cap = 0 ∧ zs = []) ∨ ∃ x, a = some x ∧ len ≤ cap ∧ cap ≤ maxLen ∧ zs.length = cap ∧ (∀ i, i < zs.length → w.cell? (x.add i) = some (.int .u32 (zs.getD i 0))) ∧ ∀ n ∈ zs, (Lit.int .u32 n).wf = true) :
    ∃ m, NumRow w a len m ∧ Wds m ∧ (len : Int) ≤ 9223372036854775807 ∧ len ≤ cap ∧ (cap : Int) ≤ 9223372036854775807 := by
  rcases h with ⟨rfl, rfl, rfl, rfl⟩ | ⟨x, rfl, hl, hm, hz, hcell, hwz⟩
  · exact ⟨fun _ => 0, .inl rfl, fun _ => ⟨by simp, by simp⟩, by omega, by omega, by omega⟩
  · have hmax : maxLen = 9223372036854775807 := rfl
    refine ⟨fun i => zs.getD i 0, ?_, ?_, by omega, hl, by omega⟩
    · by_cases h0 : len = 0
      · exact .inl h0
      · obtain ⟨b, off, spot⟩ := x
        have hc := hcell 0 (by omega)
        have hspot : spot = none := by simpa [Addr.add] using World.cell?_spot hc
        subst hspot
        refine .inr ⟨b, off, rfl, fun i hi => ?_⟩
        have := hcell i (by omega)
        rwa [addr_add] at this
    · intro i
      show 0 ≤ zs.getD i 0 ∧ zs.getD i 0 < 4294967296
      by_cases hi : i < zs.length
      · have := hwz (zs.getD i 0) (by rw [List.getD_eq_getElem?_getD, List.getElem?_eq_getElem hi]; exact List.getElem_mem _)
        have := bounds_u32 this
        omega
      · have : zs.getD i 0 = 0 := by rw [List.getD_eq_getElem?_getD, List.getElem?_eq_none (by omega)]; rfl
        rw [this]; omega
/-- a tag appended -/
theorem RwSt.next {w wr w6 : World} {a : Option Addr} {n : Nat} {m : Nat → Int} {k : Nat} {v v' : Value} {o : Obj} (st : RwSt w a n m k v wr) (hblk : ∀ x, a = some x → 0 < n → x.block < w.heap.size)
    (hown : w6.ownsRow w.heap.size 69 2 v' (k + 1) (Tc m (fun _ => false) k ++ [.int .u32 (m k), .bool false])) (hg : (wr.alloc o).grownBy w6 v.ownBlock) : RwSt w a n m (k + 1) v' w6 := by
  have hb := own_block st.own
  refine ⟨hown, (st.num.below ((Below.refl _ _).alloc (Nat.le_refl _) o)).grown hg (fun x hx h0 e => ?_), (st.bel.alloc st.bel.size _).grown hg (st.bel.alloc st.bel.size _).size (fun j e => hb j e)⟩
  have := hblk x hx h0
  have := hb _ e.symm
  omega

set_option maxRecDepth 100000 in
set_option maxHeartbeats 8000000 in
theorem rows_walk (s : Int) (a : Option Addr) (n cap : Nat) (m : Nat → Int) (hs : 0 ≤ s ∧ s < 4294967296) (hm : Wds m) (hn : (n : Int) ≤ 9223372036854775807) (hcap : n ≤ cap) (hcm : (cap : Int) ≤ 9223372036854775807) (w : World) (hT : NumRow w a n m) :
    Calls Try.prog 8 #[.int .u32 s, .slice a n cap] w fun e w' => e = .returned (.bool true) ∧ Below w.heap.size w w' := by
  have hblk : ∀ x, a = some x → 0 < n → x.block < w.heap.size := fun x hx h0 => hT.block h0 x hx
  have HBLK := Lib.hid hblk
  have HT := Lib.hid hT
  have HM := Lib.hid hm
  clear hblk hT hm
  obtain ⟨hs0, hs1⟩ := hs
  go_enter Try.func8, Try.ntmps8
  go_wp2_with fail
  refine (awake9 _).mono ?_
  rintro e w1 ⟨rfl, hL1⟩
  by_cases hn100 : n ≤ 100
  rotate_left
  · have d : (100 : Int) < (n : Int) := by omega
    go_wp2_with fail
    go_ret
    exact ⟨rfl, hL1⟩
  have st1 : RwSt w a n m 0 (.slice none 0 0) w1 := ⟨World.ownsRow_nil w1 _ _ 2, HT.out.below hL1, hL1⟩
  clear HT hL1
  obtain ⟨i0, hi, hz0, hz1, hz2⟩ := info_parts info_tag'
  go_wp2_with fail
  go_loopw [5, 6, 7] (fun r v u wr => ∃ (k : Nat) (V : Value), k ≤ n ∧ u = .int .i64 (k : Int) ∧ r = .bool (riseB m k) ∧ v = V ∧ RwSt w a n m k V wr) (fun _ _ u _ => n - (intOf u).toNat)
  case atStart => exact ⟨0, _, by omega, rfl, rfl, rfl, st1⟩
  case round =>
    clear st1
    obtain ⟨k, V, hk, rfl, rfl, rfl, st⟩ := hrel
    by_cases hlt : k < n
    · obtain ⟨b, off, rfl, hseg⟩ : ∃ b off, a = some ⟨b, off, none⟩ ∧ NumSeg wr b off n m := by
        rcases st.num with h | h
        · omega
        · exact h
      have hc0 : ∀ x : InW (RwSt w (some ⟨b, off, none⟩) n m k u6), x.W.cell? ⟨b, off + k, none⟩ = some (.int .u32 (m k)) := fun x => num_cell x.h.num k hlt
      have l0 : (0 : Int) ≤ (k : Int) := by omega
      have l1 : (k : Int) < (n : Int) := by omega
      by_cases hR : riseB m k = true
      · have HR := Lib.hid hR
        rw [hR]
        clear hR
        by_cases hk0 : k = 0
        · have RS : Hid (riseB m (k + 1) = true) := by show _ = _; rw [riseB_succ, HR.out, hk0]; rfl
          have e5 : ((k : Int) == 0) = true := by simp [hk0]
          have e6 : decide (k = 0) = true := by simp [hk0]
          have hc1 : True := trivial
          have HK0 := Lib.hid hk0
          clear hk0
          go_wp2_with fail
          refine wp_region_S (RwSt w (some ⟨b, off, none⟩) n m k u6) (by kernel_rfl) (by kernel_rfl) ⟨st.own, st.num, st.bel.drew⟩ ?_
          clear st hseg
          intro hne
          repeat (first | go_big_quiet_skip | (go_big_quiet_want; go_big_quiet_op; go_big_quiet_on))
          refine wpQuiet_nil ?_
          intro w4 h4
          have st := h4.out
          have c0 := num_cell st.num k hlt
          clear h4 hne hc0 hc1
          have hbs := run_tag1
          have htz := zero_tag
          have hown' := World.ownsRow.alloc st.own (.cells #[.int .u32 (m k), .bool false] 69)
          go_wp2_with (first | (refine wpList_append_own _ rfl (.tmp 46) (.tmp 52) 25 rfl w.heap.size 69 i0 (.agg #[.int .u32 0, .bool false]) 2 8 Try.underlying25 hi hz0 hz1 hz2 rfl (by decide) _ k _ rfl (by exact hown') ⟨w4.heap.size, 0, none⟩ 1 1 [.int .u32 (m k), .bool false] rfl rfl ?news1 ?one1 (by unfold maxLen; omega) (by omega) (by have := st.bel.size; simp; omega) ?rest1))
          case news1 =>
            intro j u hj
            rcases j with _ | _ | j
            · cases hj; exact cell_of_heap (heap_alloc_new w4 _) rfl
            · cases hj; exact cell_of_heap (heap_alloc_new w4 _) rfl
            · cases hj
          case one1 =>
            intro u hu
            simp only [List.mem_cons, List.not_mem_nil, or_false] at hu
            rcases hu with rfl | rfl <;> rfl
          intro v' w6 hown6 hg6 _
          have st6 := RwSt.next st HBLK.out hown6 hg6
          clear st hown' hown6 hg6 hbs htz
          go_wp2_with fail
          go_roundw
          case rel => first | exact ⟨k + 1, _, by omega, by go_num, by rw [RS.out], rfl, st6⟩ | ((repeat apply Exists.intro); exact ⟨⟨k + 1, _, by omega, by go_num, by rw [RS.out], rfl, st6⟩, rfl⟩)
          case measure => simp [intOf]; omega
        · have e1 : IntKind.i64.wrap ((k : Int) - 1) = (k : Int) - 1 := IntWalk.i64_in _ (by omega)
          have e2 : (0 : Int) ≤ (k : Int) - 1 := by omega
          have e3 : ((k : Int) - 1).toNat = k - 1 := by omega
          have e4 : (k : Int) - 1 < (n : Int) := by omega
          have e5 : ((k : Int) == 0) = false := by simp [hk0]
          have e6 : decide (k = 0) = false := by simp [hk0]
          have hc1 : ∀ x : InW (RwSt w (some ⟨b, off, none⟩) n m k u6), x.W.cell? ⟨b, off + (k - 1), none⟩ = some (.int .u32 (m (k - 1))) := fun x => num_cell x.h.num (k - 1) (by omega)
          by_cases hri : m (k - 1) < m k
          · have RS : Hid (riseB m (k + 1) = true) := by show _ = _; rw [riseB_succ, HR.out, decide_eq_true hri]; simp
            have d1 : decide (m (k - 1) < m k) = true := by simpa using hri
            go_wp2_with fail
            refine wp_region_S (RwSt w (some ⟨b, off, none⟩) n m k u6) (by kernel_rfl) (by kernel_rfl) ⟨st.own, st.num, st.bel.drew⟩ ?_
            clear st hseg
            intro hne
            repeat (first | go_big_quiet_skip | (go_big_quiet_want; go_big_quiet_op; go_big_quiet_on))
            refine wpQuiet_nil ?_
            intro w4 h4
            have st := h4.out
            have c0 := num_cell st.num k hlt
            clear h4 hne hc0 hc1
            clear e1 e2 e3 e4
            have hbs := run_tag1
            have htz := zero_tag
            have hown' := World.ownsRow.alloc st.own (.cells #[.int .u32 (m k), .bool false] 69)
            go_wp2_with (first | (refine wpList_append_own _ rfl (.tmp 46) (.tmp 52) 25 rfl w.heap.size 69 i0 (.agg #[.int .u32 0, .bool false]) 2 8 Try.underlying25 hi hz0 hz1 hz2 rfl (by decide) _ k _ rfl (by exact hown') ⟨w4.heap.size, 0, none⟩ 1 1 [.int .u32 (m k), .bool false] rfl rfl ?news2 ?one2 (by unfold maxLen; omega) (by omega) (by have := st.bel.size; simp; omega) ?rest2))
            case news2 =>
              intro j u hj
              rcases j with _ | _ | j
              · cases hj; exact cell_of_heap (heap_alloc_new w4 _) rfl
              · cases hj; exact cell_of_heap (heap_alloc_new w4 _) rfl
              · cases hj
            case one2 =>
              intro u hu
              simp only [List.mem_cons, List.not_mem_nil, or_false] at hu
              rcases hu with rfl | rfl <;> rfl
            intro v' w6 hown6 hg6 _
            have st6 := RwSt.next st HBLK.out hown6 hg6
            clear st hown' hown6 hg6 hbs htz
            go_wp2_with fail
            go_roundw
            case rel => first | exact ⟨k + 1, _, by omega, by go_num, by rw [RS.out], rfl, st6⟩ | ((repeat apply Exists.intro); exact ⟨⟨k + 1, _, by omega, by go_num, by rw [RS.out], rfl, st6⟩, rfl⟩)
            case measure => simp [intOf]; omega
          · have RS : Hid (riseB m (k + 1) = false) := by show _ = _; rw [riseB_succ, decide_eq_false hri]; simp [hk0]
            have d1 : decide (m (k - 1) < m k) = false := by simpa using hri
            go_wp2_with fail
            refine wp_region_S (RwSt w (some ⟨b, off, none⟩) n m k u6) (by kernel_rfl) (by kernel_rfl) ⟨st.own, st.num, st.bel.drew⟩ ?_
            clear st hseg
            intro hne
            repeat (first | go_big_quiet_skip | (go_big_quiet_want; go_big_quiet_op; go_big_quiet_on))
            refine wpQuiet_nil ?_
            intro w4 h4
            have st := h4.out
            have c0 := num_cell st.num k hlt
            clear h4 hne hc0 hc1
            clear e1 e2 e3 e4
            have hbs := run_tag1
            have htz := zero_tag
            have hown' := World.ownsRow.alloc st.own (.cells #[.int .u32 (m k), .bool false] 69)
            go_wp2_with (first | (refine wpList_append_own _ rfl (.tmp 46) (.tmp 52) 25 rfl w.heap.size 69 i0 (.agg #[.int .u32 0, .bool false]) 2 8 Try.underlying25 hi hz0 hz1 hz2 rfl (by decide) _ k _ rfl (by exact hown') ⟨w4.heap.size, 0, none⟩ 1 1 [.int .u32 (m k), .bool false] rfl rfl ?news3 ?one3 (by unfold maxLen; omega) (by omega) (by have := st.bel.size; simp; omega) ?rest3))
            case news3 =>
              intro j u hj
              rcases j with _ | _ | j
              · cases hj; exact cell_of_heap (heap_alloc_new w4 _) rfl
              · cases hj; exact cell_of_heap (heap_alloc_new w4 _) rfl
              · cases hj
            case one3 =>
              intro u hu
              simp only [List.mem_cons, List.not_mem_nil, or_false] at hu
              rcases hu with rfl | rfl <;> rfl
            intro v' w6 hown6 hg6 _
            have st6 := RwSt.next st HBLK.out hown6 hg6
            clear st hown' hown6 hg6 hbs htz
            go_wp2_with fail
            go_roundw
            case rel => first | exact ⟨k + 1, _, by omega, by go_num, by rw [RS.out], rfl, st6⟩ | ((repeat apply Exists.intro); exact ⟨⟨k + 1, _, by omega, by go_num, by rw [RS.out], rfl, st6⟩, rfl⟩)
            case measure => simp [intOf]; omega
      · rw [Bool.not_eq_true] at hR
        have RS : Hid (riseB m (k + 1) = false) := by show _ = _; rw [riseB_succ, hR]; rfl
        rw [hR]
        have hc1 : True := trivial
        clear hR
        go_wp2_with fail
        refine wp_region_S (RwSt w (some ⟨b, off, none⟩) n m k u6) (by kernel_rfl) (by kernel_rfl) ⟨st.own, st.num, st.bel.drew⟩ ?_
        clear st hseg
        intro hne
        repeat (first | go_big_quiet_skip | (go_big_quiet_want; go_big_quiet_op; go_big_quiet_on))
        refine wpQuiet_nil ?_
        intro w4 h4
        have st := h4.out
        have c0 := num_cell st.num k hlt
        clear h4 hne hc0 hc1
        have hbs := run_tag1
        have htz := zero_tag
        have hown' := World.ownsRow.alloc st.own (.cells #[.int .u32 (m k), .bool false] 69)
        go_wp2_with (first | (refine wpList_append_own _ rfl (.tmp 46) (.tmp 52) 25 rfl w.heap.size 69 i0 (.agg #[.int .u32 0, .bool false]) 2 8 Try.underlying25 hi hz0 hz1 hz2 rfl (by decide) _ k _ rfl (by exact hown') ⟨w4.heap.size, 0, none⟩ 1 1 [.int .u32 (m k), .bool false] rfl rfl ?news4 ?one4 (by unfold maxLen; omega) (by omega) (by have := st.bel.size; simp; omega) ?rest4))
        case news4 =>
          intro j u hj
          rcases j with _ | _ | j
          · cases hj; exact cell_of_heap (heap_alloc_new w4 _) rfl
          · cases hj; exact cell_of_heap (heap_alloc_new w4 _) rfl
          · cases hj
        case one4 =>
          intro u hu
          simp only [List.mem_cons, List.not_mem_nil, or_false] at hu
          rcases hu with rfl | rfl <;> rfl
        intro v' w6 hown6 hg6 _
        have st6 := RwSt.next st HBLK.out hown6 hg6
        clear st hown' hown6 hg6 hbs htz
        go_wp2_with fail
        go_roundw
        case rel => first | exact ⟨k + 1, _, by omega, by go_num, by rw [RS.out], rfl, st6⟩ | ((repeat apply Exists.intro); exact ⟨⟨k + 1, _, by omega, by go_num, by rw [RS.out], rfl, st6⟩, rfl⟩)
        case measure => simp [intOf]; omega
    · obtain rfl : k = n := by omega
      obtain ⟨ta, tcap, rfl, htag, hta, htc⟩ := own_tags st.own
      clear hta htc HBLK hi hz0 hz1 hz2
      have Rno : ∀ (h : seqB s = false ∨ riseB m k = false ∨ k = 0 ∨ 60 < k), Hid (revOk s k m = false) := fun h => by
        show _ = _; unfold revOk
        rcases h with h | h | h | h
        · rw [h]; rfl
        · rw [h]; simp
        · subst h; simp
        · simp [show ¬ k ≤ 60 by omega]
      have Dno : ∀ (h : seqB s = false ∨ riseB m k = false ∨ k = 0 ∨ 30 < k), Hid (descOk s k m = false) := fun h => by
        show _ = _; unfold descOk
        rcases h with h | h | h | h
        · rw [h]; rfl
        · rw [h]; simp
        · subst h; simp
        · simp [show ¬ k ≤ 30 by omega]
      have RNO := Lib.hid Rno
      have DNO := Lib.hid Dno
      clear Rno Dno
      by_cases s1 : 1 ≤ s
      rotate_left
      · have sq : seqB s = false := by unfold seqB; simp [s1]
        have HRV := RNO.out (.inl sq)
        have HDS := DNO.out (.inl sq)
        clear sq RNO DNO
        generalize riseB m k = R
        go_wp2_with fail
        refine (writeRevoke_any s a k cap m ⟨hs0, hs1⟩ HM.out hn _ st.num).mono ?_
        rintro e w5 ⟨rfl, hb5⟩
        rw [HRV.out]
        have hL5 : Below w.heap.size w w5 := st.bel.trans (hb5.mono st.bel.size)
        have ht5 := htag.below hb5
        have hnum5 := st.num.below hb5
        have hn5 := Blk.new w5 28 256 (fun _ => 0)
        have hal := zero_block
        clear st htag hb5
        rw [show errOf false 2 = 2 from rfl]
        go_wp2_with (first | (refine wp_storeBlk rfl (.tmp 9) (.tmp 72) rfl w5.heap.size (revZ s k m) _ rfl rfl hn5 ?_))
        intro w6 hB6 ho6
        have hb56 : Below w5.heap.size w5 w6 := ((Below.refl _ _).alloc (Nat.le_refl _) _).trans (ho6.below (Nat.le_refl _))
        have hL6 : Below w.heap.size w w6 := hL5.trans (hb56.mono hL5.size)
        have ht6 := ht5.below hb56
        have hnum6 := hnum5.below hb56
        clear hL5 ht5 hnum5 hn5 ho6 hb56
        go_wp2_with fail
        refine (writeDesc_any s ta k tcap m (fun _ => false) ⟨hs0, hs1⟩ HM.out hn _ ht6).mono ?_
        rintro e w7 ⟨rfl, hb7⟩
        rw [HDS.out]
        have hL7 : Below w.heap.size w w7 := hL6.trans (hb7.mono hL6.size)
        have hB7 := hB6.below hb7 hB6.lt
        have hnum7 := hnum6.below hb7
        have hn7 := Blk.new w7 28 256 (fun _ => 0)
        clear hL6 ht6 hB6 hnum6 hb7
        rw [show errOf false 2 = 2 from rfl]
        go_wp2_with (first | (refine wp_storeBlk rfl (.tmp 11) (.tmp 78) rfl w7.heap.size (descZ s k m (fun _ => false)) _ rfl rfl hn7 ?_))
        intro w8 hD8 ho8
        have hb78 : Below w7.heap.size w7 w8 := ((Below.refl _ _).alloc (Nat.le_refl _) _).trans (ho8.below (Nat.le_refl _))
        have hL8 : Below w.heap.size w w8 := hL7.trans (hb78.mono hL7.size)
        have hB8 := hB7.below hb78 hB7.lt
        have hnum8 := hnum7.below hb78
        clear hL7 hB7 hnum7 hn7 ho8 hb78 hD8

        go_wp2_with fail
        go_ret
        exact ⟨rfl, hL8⟩
      by_cases s2 : s ≤ 2147483648
      rotate_left
      · have sq : seqB s = false := by unfold seqB; simp [s2]
        have HRV := RNO.out (.inl sq)
        have HDS := DNO.out (.inl sq)
        clear sq RNO DNO
        generalize riseB m k = R
        go_wp2_with fail
        refine (writeRevoke_any s a k cap m ⟨hs0, hs1⟩ HM.out hn _ st.num).mono ?_
        rintro e w5 ⟨rfl, hb5⟩
        rw [HRV.out]
        have hL5 : Below w.heap.size w w5 := st.bel.trans (hb5.mono st.bel.size)
        have ht5 := htag.below hb5
        have hnum5 := st.num.below hb5
        have hn5 := Blk.new w5 28 256 (fun _ => 0)
        have hal := zero_block
        clear st htag hb5
        rw [show errOf false 2 = 2 from rfl]
        go_wp2_with (first | (refine wp_storeBlk rfl (.tmp 9) (.tmp 72) rfl w5.heap.size (revZ s k m) _ rfl rfl hn5 ?_))
        intro w6 hB6 ho6
        have hb56 : Below w5.heap.size w5 w6 := ((Below.refl _ _).alloc (Nat.le_refl _) _).trans (ho6.below (Nat.le_refl _))
        have hL6 : Below w.heap.size w w6 := hL5.trans (hb56.mono hL5.size)
        have ht6 := ht5.below hb56
        have hnum6 := hnum5.below hb56
        clear hL5 ht5 hnum5 hn5 ho6 hb56
        go_wp2_with fail
        refine (writeDesc_any s ta k tcap m (fun _ => false) ⟨hs0, hs1⟩ HM.out hn _ ht6).mono ?_
        rintro e w7 ⟨rfl, hb7⟩
        rw [HDS.out]
        have hL7 : Below w.heap.size w w7 := hL6.trans (hb7.mono hL6.size)
        have hB7 := hB6.below hb7 hB6.lt
        have hnum7 := hnum6.below hb7
        have hn7 := Blk.new w7 28 256 (fun _ => 0)
        clear hL6 ht6 hB6 hnum6 hb7
        rw [show errOf false 2 = 2 from rfl]
        go_wp2_with (first | (refine wp_storeBlk rfl (.tmp 11) (.tmp 78) rfl w7.heap.size (descZ s k m (fun _ => false)) _ rfl rfl hn7 ?_))
        intro w8 hD8 ho8
        have hb78 : Below w7.heap.size w7 w8 := ((Below.refl _ _).alloc (Nat.le_refl _) _).trans (ho8.below (Nat.le_refl _))
        have hL8 : Below w.heap.size w w8 := hL7.trans (hb78.mono hL7.size)
        have hB8 := hB7.below hb78 hB7.lt
        have hnum8 := hnum7.below hb78
        clear hL7 hB7 hnum7 hn7 ho8 hb78 hD8

        go_wp2_with fail
        go_ret
        exact ⟨rfl, hL8⟩
      by_cases hR : riseB m k = true
      rotate_left
      · rw [Bool.not_eq_true] at hR
        have HRV := RNO.out (.inr (.inl hR))
        have HDS := DNO.out (.inr (.inl hR))
        rw [hR]
        clear hR RNO DNO
        go_wp2_with fail
        refine (writeRevoke_any s a k cap m ⟨hs0, hs1⟩ HM.out hn _ st.num).mono ?_
        rintro e w5 ⟨rfl, hb5⟩
        rw [HRV.out]
        have hL5 : Below w.heap.size w w5 := st.bel.trans (hb5.mono st.bel.size)
        have ht5 := htag.below hb5
        have hnum5 := st.num.below hb5
        have hn5 := Blk.new w5 28 256 (fun _ => 0)
        have hal := zero_block
        clear st htag hb5
        rw [show errOf false 2 = 2 from rfl]
        go_wp2_with (first | (refine wp_storeBlk rfl (.tmp 9) (.tmp 72) rfl w5.heap.size (revZ s k m) _ rfl rfl hn5 ?_))
        intro w6 hB6 ho6
        have hb56 : Below w5.heap.size w5 w6 := ((Below.refl _ _).alloc (Nat.le_refl _) _).trans (ho6.below (Nat.le_refl _))
        have hL6 : Below w.heap.size w w6 := hL5.trans (hb56.mono hL5.size)
        have ht6 := ht5.below hb56
        have hnum6 := hnum5.below hb56
        clear hL5 ht5 hnum5 hn5 ho6 hb56
        go_wp2_with fail
        refine (writeDesc_any s ta k tcap m (fun _ => false) ⟨hs0, hs1⟩ HM.out hn _ ht6).mono ?_
        rintro e w7 ⟨rfl, hb7⟩
        rw [HDS.out]
        have hL7 : Below w.heap.size w w7 := hL6.trans (hb7.mono hL6.size)
        have hB7 := hB6.below hb7 hB6.lt
        have hnum7 := hnum6.below hb7
        have hn7 := Blk.new w7 28 256 (fun _ => 0)
        clear hL6 ht6 hB6 hnum6 hb7
        rw [show errOf false 2 = 2 from rfl]
        go_wp2_with (first | (refine wp_storeBlk rfl (.tmp 11) (.tmp 78) rfl w7.heap.size (descZ s k m (fun _ => false)) _ rfl rfl hn7 ?_))
        intro w8 hD8 ho8
        have hb78 : Below w7.heap.size w7 w8 := ((Below.refl _ _).alloc (Nat.le_refl _) _).trans (ho8.below (Nat.le_refl _))
        have hL8 : Below w.heap.size w w8 := hL7.trans (hb78.mono hL7.size)
        have hB8 := hB7.below hb78 hB7.lt
        have hnum8 := hnum7.below hb78
        clear hL7 hB7 hnum7 hn7 ho8 hb78 hD8

        go_wp2_with fail
        go_ret
        exact ⟨rfl, hL8⟩
      by_cases k0 : 1 ≤ k
      rotate_left
      · have HRV := RNO.out (.inr (.inr (.inl (by omega))))
        have HDS := DNO.out (.inr (.inr (.inl (by omega))))
        rw [hR]
        clear hR RNO DNO
        go_wp2_with fail
        refine (writeRevoke_any s a k cap m ⟨hs0, hs1⟩ HM.out hn _ st.num).mono ?_
        rintro e w5 ⟨rfl, hb5⟩
        rw [HRV.out]
        have hL5 : Below w.heap.size w w5 := st.bel.trans (hb5.mono st.bel.size)
        have ht5 := htag.below hb5
        have hnum5 := st.num.below hb5
        have hn5 := Blk.new w5 28 256 (fun _ => 0)
        have hal := zero_block
        clear st htag hb5
        rw [show errOf false 2 = 2 from rfl]
        go_wp2_with (first | (refine wp_storeBlk rfl (.tmp 9) (.tmp 72) rfl w5.heap.size (revZ s k m) _ rfl rfl hn5 ?_))
        intro w6 hB6 ho6
        have hb56 : Below w5.heap.size w5 w6 := ((Below.refl _ _).alloc (Nat.le_refl _) _).trans (ho6.below (Nat.le_refl _))
        have hL6 : Below w.heap.size w w6 := hL5.trans (hb56.mono hL5.size)
        have ht6 := ht5.below hb56
        have hnum6 := hnum5.below hb56
        clear hL5 ht5 hnum5 hn5 ho6 hb56
        go_wp2_with fail
        refine (writeDesc_any s ta k tcap m (fun _ => false) ⟨hs0, hs1⟩ HM.out hn _ ht6).mono ?_
        rintro e w7 ⟨rfl, hb7⟩
        rw [HDS.out]
        have hL7 : Below w.heap.size w w7 := hL6.trans (hb7.mono hL6.size)
        have hB7 := hB6.below hb7 hB6.lt
        have hnum7 := hnum6.below hb7
        have hn7 := Blk.new w7 28 256 (fun _ => 0)
        clear hL6 ht6 hB6 hnum6 hb7
        rw [show errOf false 2 = 2 from rfl]
        go_wp2_with (first | (refine wp_storeBlk rfl (.tmp 11) (.tmp 78) rfl w7.heap.size (descZ s k m (fun _ => false)) _ rfl rfl hn7 ?_))
        intro w8 hD8 ho8
        have hb78 : Below w7.heap.size w7 w8 := ((Below.refl _ _).alloc (Nat.le_refl _) _).trans (ho8.below (Nat.le_refl _))
        have hL8 : Below w.heap.size w w8 := hL7.trans (hb78.mono hL7.size)
        have hB8 := hB7.below hb78 hB7.lt
        have hnum8 := hnum7.below hb78
        clear hL7 hB7 hnum7 hn7 ho8 hb78 hD8

        go_wp2_with fail
        go_ret
        exact ⟨rfl, hL8⟩
      by_cases k60 : k ≤ 60
      rotate_left
      · have HRV := RNO.out (.inr (.inr (.inr (by omega))))
        have HDS := DNO.out (.inr (.inr (.inr (by omega))))
        rw [hR]
        clear hR RNO DNO
        go_wp2_with fail
        refine (writeRevoke_any s a k cap m ⟨hs0, hs1⟩ HM.out hn _ st.num).mono ?_
        rintro e w5 ⟨rfl, hb5⟩
        rw [HRV.out]
        have hL5 : Below w.heap.size w w5 := st.bel.trans (hb5.mono st.bel.size)
        have ht5 := htag.below hb5
        have hnum5 := st.num.below hb5
        have hn5 := Blk.new w5 28 256 (fun _ => 0)
        have hal := zero_block
        clear st htag hb5
        rw [show errOf false 2 = 2 from rfl]
        go_wp2_with (first | (refine wp_storeBlk rfl (.tmp 9) (.tmp 72) rfl w5.heap.size (revZ s k m) _ rfl rfl hn5 ?_))
        intro w6 hB6 ho6
        have hb56 : Below w5.heap.size w5 w6 := ((Below.refl _ _).alloc (Nat.le_refl _) _).trans (ho6.below (Nat.le_refl _))
        have hL6 : Below w.heap.size w w6 := hL5.trans (hb56.mono hL5.size)
        have ht6 := ht5.below hb56
        have hnum6 := hnum5.below hb56
        clear hL5 ht5 hnum5 hn5 ho6 hb56
        go_wp2_with fail
        refine (writeDesc_any s ta k tcap m (fun _ => false) ⟨hs0, hs1⟩ HM.out hn _ ht6).mono ?_
        rintro e w7 ⟨rfl, hb7⟩
        rw [HDS.out]
        have hL7 : Below w.heap.size w w7 := hL6.trans (hb7.mono hL6.size)
        have hB7 := hB6.below hb7 hB6.lt
        have hnum7 := hnum6.below hb7
        have hn7 := Blk.new w7 28 256 (fun _ => 0)
        clear hL6 ht6 hB6 hnum6 hb7
        rw [show errOf false 2 = 2 from rfl]
        go_wp2_with (first | (refine wp_storeBlk rfl (.tmp 11) (.tmp 78) rfl w7.heap.size (descZ s k m (fun _ => false)) _ rfl rfl hn7 ?_))
        intro w8 hD8 ho8
        have hb78 : Below w7.heap.size w7 w8 := ((Below.refl _ _).alloc (Nat.le_refl _) _).trans (ho8.below (Nat.le_refl _))
        have hL8 : Below w.heap.size w w8 := hL7.trans (hb78.mono hL7.size)
        have hB8 := hB7.below hb78 hB7.lt
        have hnum8 := hnum7.below hb78
        clear hL7 hB7 hnum7 hn7 ho8 hb78 hD8

        go_wp2_with fail
        go_ret
        exact ⟨rfl, hL8⟩
      have sq : seqB s = true := by unfold seqB; simp [s1, s2]
      have HRV : Hid (revOk s k m = true) := by show _ = _; unfold revOk; rw [sq, hR]; simp [k0, k60]
      obtain ⟨b, off, rfl, hseg⟩ : ∃ b off, a = some ⟨b, off, none⟩ ∧ NumSeg wr b off k m := by
        rcases st.num with h | h
        · omega
        · exact h
      clear hseg
      by_cases k30 : k ≤ 30
      · have d60 : decide ((k : Int) ≤ 60) = true := by simp; omega
        have d60' : decide (k ≤ 60) = true := by simp; omega
        have d30 : decide ((k : Int) ≤ 30) = true := by simp; omega
        have d30' : decide (k ≤ 30) = true := by simp; omega
        have HDS : Hid (descOk s k m = true) := by show _ = _; unfold descOk; rw [sq, hR]; simp [k0, k30]
        rw [hR]
        clear hR sq RNO DNO
        go_wp2_with fail
        refine (writeRevoke_any s (some ⟨b, off, none⟩) k cap m ⟨hs0, hs1⟩ HM.out hn _ st.num).mono ?_
        rintro e w5 ⟨rfl, hb5⟩
        rw [HRV.out]
        have hL5 : Below w.heap.size w w5 := st.bel.trans (hb5.mono st.bel.size)
        have ht5 := htag.below hb5
        have hnum5 := st.num.below hb5
        have hn5 := Blk.new w5 28 256 (fun _ => 0)
        have hal := zero_block
        clear st htag hb5
        rw [show errOf true 2 = 0 from rfl]
        go_wp2_with (first | (refine wp_storeBlk rfl (.tmp 9) (.tmp 72) rfl w5.heap.size (revZ s k m) _ rfl rfl hn5 ?_))
        intro w6 hB6 ho6
        have hb56 : Below w5.heap.size w5 w6 := ((Below.refl _ _).alloc (Nat.le_refl _) _).trans (ho6.below (Nat.le_refl _))
        have hL6 : Below w.heap.size w w6 := hL5.trans (hb56.mono hL5.size)
        have ht6 := ht5.below hb56
        have hnum6 := hnum5.below hb56
        clear hL5 ht5 hnum5 hn5 ho6 hb56
        go_wp2_with fail
        refine (writeDesc_any s ta k tcap m (fun _ => false) ⟨hs0, hs1⟩ HM.out hn _ ht6).mono ?_
        rintro e w7 ⟨rfl, hb7⟩
        rw [HDS.out]
        have hL7 : Below w.heap.size w w7 := hL6.trans (hb7.mono hL6.size)
        have hB7 := hB6.below hb7 hB6.lt
        have hnum7 := hnum6.below hb7
        have hn7 := Blk.new w7 28 256 (fun _ => 0)
        clear hL6 ht6 hB6 hnum6 hb7
        rw [show errOf true 2 = 0 from rfl]
        go_wp2_with (first | (refine wp_storeBlk rfl (.tmp 11) (.tmp 78) rfl w7.heap.size (descZ s k m (fun _ => false)) _ rfl rfl hn7 ?_))
        intro w8 hD8 ho8
        have hb78 : Below w7.heap.size w7 w8 := ((Below.refl _ _).alloc (Nat.le_refl _) _).trans (ho8.below (Nat.le_refl _))
        have hL8 : Below w.heap.size w w8 := hL7.trans (hb78.mono hL7.size)
        have hB8 := hB7.below hb78 hB7.lt
        have hnum8 := hnum7.below hb78
        clear hL7 hB7 hnum7 hn7 ho8 hb78 hD8

        go_wp2_with (first | (refine wp_loadBlk rfl (.tmp 9) rfl w5.heap.size (revZ s k m) rfl hB8 ?_))
        refine (readRevoke_any _ (revZ_byt s k m) _).mono ?_
        obtain ⟨L1, L2, L3, L4, _, _⟩ := revoke_law s k m HM.out HRV.out
        rintro e w9 ⟨hb9, ⟨hr, rfl⟩ | ⟨hr, g9, cap9, rfl, hown9⟩⟩
        · rw [L1] at hr; cases hr
        rw [L3] at hown9
        rw [L2, L3]
        have hL9 : Below w.heap.size w w9 := hL8.trans (hb9.mono hL8.size)
        have hnum9 := hnum8.below hb9
        have heq : Hid (eqB m (revM (revZ s k m)) k = true) := (eqB_iff _ _ _).2 fun i hi => (L4 i hi).symm
        have hmine := own_nums hown9
        have HMINE := Lib.hid hmine
        clear hr L1 L2 L3 L4 hL8 hB8 hnum8 hb9 hown9 hmine
        have q1 : (s != s) = false := by simp
        go_wp2_with fail
        refine (sameNum_any (some ⟨b, off, none⟩) (some ⟨g9, 0, none⟩) k cap cap9 m _ _ hn hnum9 HMINE.out).mono ?_
        rintro e w10 ⟨rfl, nn, rfl⟩
        rw [heq.out]
        have hL10 := bel_drewN hL9 nn
        have hnum10 : NumRow (w9.drewN nn) (some ⟨b, off, none⟩) k m := hnum9
        generalize w9.drewN nn = w10 at hL10 hnum10 ⊢
        clear hL9 hnum9 heq HMINE q1
        have hsl := fun W => run_numsHigh b off k cap (k - 1) ((k : Int) - 1) (by omega) (by omega) hcap W
        have hnum11 : NumRow w10 (some ⟨b, off, none⟩) (k - 1) m := num_take hnum10 (by omega)
        go_wp2_with fail
        refine (writeRevoke_any s (some ⟨b, off, none⟩) (k - 1) cap m ⟨hs0, hs1⟩ HM.out (by omega) _ hnum11).mono ?_
        rintro e w11 ⟨rfl, hb11⟩
        have hL11 : Below w.heap.size w w11 := hL10.trans (hb11.mono hL10.size)
        have hn11 := Blk.new w11 28 256 (fun _ => 0)
        clear hL10 hnum10 hnum11 hb11 hsl
        by_cases hk1 : k = 1
        · have HR1 : Hid (revOk s (k - 1) m = false) := by show _ = _; rw [hk1]; unfold revOk; simp
          rw [HR1.out, show errOf false 2 = 2 from rfl]
          have d1 : decide ((1 : Int) < (k : Int)) = false := by simp; omega
          have d2 : decide (1 < k) = false := by simp; omega
          clear hk1
          go_wp2_with (first | (refine wp_storeBlk rfl (.tmp 16) (.tmp 129) rfl w11.heap.size (revZ s (k - 1) m) _ rfl rfl hn11 ?_))
          intro w12 _ ho12
          have hL12 : Below w.heap.size w w12 := (hL11.alloc hL11.size _).trans (ho12.below hL11.size)
          go_wp2_with fail
          go_ret
          exact ⟨rfl, hL12⟩
        · have HR1 : Hid (revOk s (k - 1) m = true) := by
            show _ = _
            have := HRV.out
            unfold revOk at this ⊢
            rw [Bool.and_eq_true, Bool.and_eq_true, decide_eq_true_eq] at this ⊢
            exact ⟨this.1, by omega, (riseB_iff _ _).2 fun i h0 hi => (riseB_iff _ _).1 this.2.2 i h0 (by omega)⟩
          rw [HR1.out, show errOf true 2 = 0 from rfl]
          have d1 : decide ((1 : Int) < (k : Int)) = true := by simp; omega
          have d2 : decide (1 < k) = true := by simp; omega
          clear hk1
          go_wp2_with (first | (refine wp_storeBlk rfl (.tmp 16) (.tmp 129) rfl w11.heap.size (revZ s (k - 1) m) _ rfl rfl hn11 ?_))
          intro w12 _ ho12
          have hL12 : Below w.heap.size w w12 := (hL11.alloc hL11.size _).trans (ho12.below hL11.size)
          go_wp2_with fail
          go_ret
          exact ⟨rfl, hL12⟩
      · have d60 : decide ((k : Int) ≤ 60) = true := by simp; omega
        have d60' : decide (k ≤ 60) = true := by simp; omega
        have d30 : decide ((k : Int) ≤ 30) = false := by simp; omega
        have d30' : decide (k ≤ 30) = false := by simp; omega
        have HDS := DNO.out (.inr (.inr (.inr (by omega))))
        rw [hR]
        clear hR sq RNO DNO
        go_wp2_with fail
        refine (writeRevoke_any s (some ⟨b, off, none⟩) k cap m ⟨hs0, hs1⟩ HM.out hn _ st.num).mono ?_
        rintro e w5 ⟨rfl, hb5⟩
        rw [HRV.out]
        have hL5 : Below w.heap.size w w5 := st.bel.trans (hb5.mono st.bel.size)
        have ht5 := htag.below hb5
        have hnum5 := st.num.below hb5
        have hn5 := Blk.new w5 28 256 (fun _ => 0)
        have hal := zero_block
        clear st htag hb5
        rw [show errOf true 2 = 0 from rfl]
        go_wp2_with (first | (refine wp_storeBlk rfl (.tmp 9) (.tmp 72) rfl w5.heap.size (revZ s k m) _ rfl rfl hn5 ?_))
        intro w6 hB6 ho6
        have hb56 : Below w5.heap.size w5 w6 := ((Below.refl _ _).alloc (Nat.le_refl _) _).trans (ho6.below (Nat.le_refl _))
        have hL6 : Below w.heap.size w w6 := hL5.trans (hb56.mono hL5.size)
        have ht6 := ht5.below hb56
        have hnum6 := hnum5.below hb56
        clear hL5 ht5 hnum5 hn5 ho6 hb56
        go_wp2_with fail
        refine (writeDesc_any s ta k tcap m (fun _ => false) ⟨hs0, hs1⟩ HM.out hn _ ht6).mono ?_
        rintro e w7 ⟨rfl, hb7⟩
        rw [HDS.out]
        have hL7 : Below w.heap.size w w7 := hL6.trans (hb7.mono hL6.size)
        have hB7 := hB6.below hb7 hB6.lt
        have hnum7 := hnum6.below hb7
        have hn7 := Blk.new w7 28 256 (fun _ => 0)
        clear hL6 ht6 hB6 hnum6 hb7
        rw [show errOf false 2 = 2 from rfl]
        go_wp2_with (first | (refine wp_storeBlk rfl (.tmp 11) (.tmp 78) rfl w7.heap.size (descZ s k m (fun _ => false)) _ rfl rfl hn7 ?_))
        intro w8 hD8 ho8
        have hb78 : Below w7.heap.size w7 w8 := ((Below.refl _ _).alloc (Nat.le_refl _) _).trans (ho8.below (Nat.le_refl _))
        have hL8 : Below w.heap.size w w8 := hL7.trans (hb78.mono hL7.size)
        have hB8 := hB7.below hb78 hB7.lt
        have hnum8 := hnum7.below hb78
        clear hL7 hB7 hnum7 hn7 ho8 hb78 hD8

        go_wp2_with (first | (refine wp_loadBlk rfl (.tmp 9) rfl w5.heap.size (revZ s k m) rfl hB8 ?_))
        refine (readRevoke_any _ (revZ_byt s k m) _).mono ?_
        obtain ⟨L1, L2, L3, L4, _, _⟩ := revoke_law s k m HM.out HRV.out
        rintro e w9 ⟨hb9, ⟨hr, rfl⟩ | ⟨hr, g9, cap9, rfl, hown9⟩⟩
        · rw [L1] at hr; cases hr
        rw [L3] at hown9
        rw [L2, L3]
        have hL9 : Below w.heap.size w w9 := hL8.trans (hb9.mono hL8.size)
        have hnum9 := hnum8.below hb9
        have heq : Hid (eqB m (revM (revZ s k m)) k = true) := (eqB_iff _ _ _).2 fun i hi => (L4 i hi).symm
        have hmine := own_nums hown9
        have HMINE := Lib.hid hmine
        clear hr L1 L2 L3 L4 hL8 hB8 hnum8 hb9 hown9 hmine
        have q1 : (s != s) = false := by simp
        go_wp2_with fail
        refine (sameNum_any (some ⟨b, off, none⟩) (some ⟨g9, 0, none⟩) k cap cap9 m _ _ hn hnum9 HMINE.out).mono ?_
        rintro e w10 ⟨rfl, nn, rfl⟩
        rw [heq.out]
        have hL10 := bel_drewN hL9 nn
        have hnum10 : NumRow (w9.drewN nn) (some ⟨b, off, none⟩) k m := hnum9
        generalize w9.drewN nn = w10 at hL10 hnum10 ⊢
        clear hL9 hnum9 heq HMINE q1
        have hsl := fun W => run_numsHigh b off k cap (k - 1) ((k : Int) - 1) (by omega) (by omega) hcap W
        have hnum11 : NumRow w10 (some ⟨b, off, none⟩) (k - 1) m := num_take hnum10 (by omega)
        go_wp2_with fail
        refine (writeRevoke_any s (some ⟨b, off, none⟩) (k - 1) cap m ⟨hs0, hs1⟩ HM.out (by omega) _ hnum11).mono ?_
        rintro e w11 ⟨rfl, hb11⟩
        have hL11 : Below w.heap.size w w11 := hL10.trans (hb11.mono hL10.size)
        have hn11 := Blk.new w11 28 256 (fun _ => 0)
        clear hL10 hnum10 hnum11 hb11 hsl
        by_cases hk1 : k = 1
        · have HR1 : Hid (revOk s (k - 1) m = false) := by show _ = _; rw [hk1]; unfold revOk; simp
          rw [HR1.out, show errOf false 2 = 2 from rfl]
          have d1 : decide ((1 : Int) < (k : Int)) = false := by simp; omega
          have d2 : decide (1 < k) = false := by simp; omega
          clear hk1
          go_wp2_with (first | (refine wp_storeBlk rfl (.tmp 16) (.tmp 129) rfl w11.heap.size (revZ s (k - 1) m) _ rfl rfl hn11 ?_))
          intro w12 _ ho12
          have hL12 : Below w.heap.size w w12 := (hL11.alloc hL11.size _).trans (ho12.below hL11.size)
          go_wp2_with fail
          go_ret
          exact ⟨rfl, hL12⟩
        · have HR1 : Hid (revOk s (k - 1) m = true) := by
            show _ = _
            have := HRV.out
            unfold revOk at this ⊢
            rw [Bool.and_eq_true, Bool.and_eq_true, decide_eq_true_eq] at this ⊢
            exact ⟨this.1, by omega, (riseB_iff _ _).2 fun i h0 hi => (riseB_iff _ _).1 this.2.2 i h0 (by omega)⟩
          rw [HR1.out, show errOf true 2 = 0 from rfl]
          have d1 : decide ((1 : Int) < (k : Int)) = true := by simp; omega
          have d2 : decide (1 < k) = true := by simp; omega
          clear hk1
          go_wp2_with (first | (refine wp_storeBlk rfl (.tmp 16) (.tmp 129) rfl w11.heap.size (revZ s (k - 1) m) _ rfl rfl hn11 ?_))
          intro w12 _ ho12
          have hL12 : Below w.heap.size w w12 := (hL11.alloc hL11.size _).trans (ho12.below hL11.size)
          go_wp2_with fail
          go_ret
          exact ⟨rfl, hL12⟩
end Go.Proofs.Ytahobhifafiaeaa
