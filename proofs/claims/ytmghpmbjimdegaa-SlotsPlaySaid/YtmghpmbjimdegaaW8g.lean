/- The walk of the law SlotsPlay. -/
import Derived.Test.YtmghpmbjimdegaaS8l
import Derived.Test.YtmghpmbjimdegaaMove
import Derived.Deep.SlicePairs
import Derived.ChangeSlices
namespace Go.Proofs.Ytmghpmbjimdegaa
open Go.RowKit Go.ChangeShapes Go.WideShapes Go.ChangeAt Go.Deep
set_option linter.unusedVariables false

theorem turns_in {H : Type} {enc : TypeId × Value → H} {W : World} {a : Option Addr} {len cap : Nat} {d : DataW H} {p : List MemPlace} (h : DataW.Trod enc Try.prog W 0 (fun _ => true) true 47 (.slice a len cap) d p) :
    ∃ (nm : Nat → ByteArray) (iv : Nat → Int), EnRow W a len nm iv ∧ (∀ i, (nm i).size ≤ 9223372036854775807 ∧ 0 ≤ iv i ∧ iv i < 4294967296) ∧ (len : Int) ≤ 9223372036854775807 := by
  obtain ⟨fuel, hf⟩ := h
  rcases open_slice_pairs Try.underlying47 Try.underlying50 (by kernel_rfl) rfl rfl (by kernel_rfl) (by kernel_rfl) hf with ⟨hcs, _⟩ | ⟨x, l, c, mx, nn, V0, V1, D0, D1, P0, P1, hcs, _, hl, hm, hmm, _, hall⟩
  · simp [Value.cells] at hcs
    obtain ⟨rfl, rfl, rfl⟩ := hcs
    exact ⟨fun _ => ByteArray.empty, fun _ => 0, .inl rfl, fun _ => (by decide : ByteArray.empty.size ≤ 9223372036854775807 ∧ (0 : Int) ≤ 0 ∧ (0 : Int) < 4294967296), by omega⟩
  · simp [Value.cells] at hcs
    obtain ⟨rfl, rfl, rfl⟩ := hcs
    simp only [if_true] at hmm
    rw [hmm] at hall
    have hmax : maxLen = 9223372036854775807 := rfl
    have key : ∀ i, i < cap → ∃ (s : ByteArray) (n : Int), W.cell? (x.add (i * 2)) = some (.string s) ∧ W.cell? (x.add (i * 2 + 1)) = some (.int .u32 n) ∧ s.size ≤ 9223372036854775807 ∧ 0 ≤ n ∧ n < 4294967296 := by
      intro i hi
      obtain ⟨h0, h1, g0, g1⟩ := hall i hi
      obtain ⟨s, e0, _, ws⟩ := DataW.trod_string Try.underlying9 g0
      obtain ⟨n, e1, _, wn⟩ := DataW.trod_int Try.underlying31 g1
      simp at e0 e1
      have := bounds_u32 wn
      exact ⟨s, n, by rw [h0, e0], by rw [h1, e1], ws, by omega, by omega⟩
    refine ⟨fun i => if hi : i < cap then (key i hi).choose else ByteArray.empty, fun i => if hi : i < cap then (key i hi).choose_spec.choose else 0, ?_, ?_, by omega⟩
    · by_cases h0 : len = 0
      · exact .inl h0
      · obtain ⟨b, off, spot⟩ := x
        have hc := (key 0 (by omega)).choose_spec.choose_spec.1
        have hspot : spot = none := by simpa [Addr.add] using World.cell?_spot hc
        subst hspot
        refine .inr ⟨b, off, rfl, fun i hi => ?_⟩
        have hk := (key i (by omega)).choose_spec.choose_spec
        have hi' : i < cap := by omega
        simp only [hi', dif_pos]
        have e1 := addr_add b off (i * 2)
        have e2 := addr_add b off (i * 2 + 1)
        exact ⟨(congrArg W.cell? e1).symm.trans hk.1, (congrArg W.cell? e2).symm.trans hk.2.1⟩
    · intro i
      by_cases hi : i < cap
      · simp only [hi, dif_pos]; exact (key i hi).choose_spec.choose_spec.2.2
      · simp only [hi, dif_neg, not_false_eq_true]; decide
theorem own_ents {W : World} {base k : Nat} {e : TypeId} {a : Option Addr} {cap : Nat} {nm : Nat → ByteArray} {iv : Nat → Int} (h : W.ownsRow base e 2 (.slice a k cap) k (Ec nm iv k)) : EnRow W a k nm iv := by
  rcases h.2 with ⟨hv, h0⟩ | ⟨g, cap', cur, hv, hb, hg, hn, hc, hs, ht⟩
  · exact .inl h0
  · injection hv with h1 h2 h3
    subst h1
    refine .inr ⟨g, 0, rfl, fun i hi => ?_⟩
    obtain ⟨h1, h2⟩ := Ec_get nm iv k i hi
    rw [← ht, List.getElem?_take_of_lt (by omega)] at h1 h2
    rw [Nat.zero_add]
    exact ⟨cell_of_heap hg (by simpa using h1), cell_of_heap hg (by simpa using h2)⟩
/-- the block, and the entries that should be in it -/
structure PlS (w : World) (G : Nat) (z : Nat → Int) (a : Option Addr) (m cap : Nat) (nm : Nat → ByteArray) (iv : Nat → Int) (W : World) : Prop extends E8 w G z W where
  own : W.ownsRow (G + 1) 52 2 (.slice a m cap) m (Ec nm iv m)
section
variable {w : World} {G : Nat} {z : Nat → Int} {a : Option Addr} {m cap : Nat} {nm : Nat → ByteArray} {iv : Nat → Int} {W W' : World}
theorem PlS.below (h : PlS w G z a m cap nm iv W) (hb : Below W.heap.size W W') : PlS w G z a m cap nm iv W' := ⟨h.toE8.below hb, own_bel h.own hb⟩
theorem PlS.drew (h : PlS w G z a m cap nm iv W) : PlS w G z a m cap nm iv W.drew := ⟨h.toE8.drew, h.own⟩
theorem PlS.put {y : Nat → Int} (h : PlS w G z a m cap nm iv W) (hB : Blk W' G 23 256 y) (hg : W.grownBy W' (some G)) : PlS w G y a m cap nm iv W' := by
  refine ⟨h.toE8.put hB hg, World.ownsRow.kept h.own hg ?_⟩
  right
  intro e
  have := (World.ownsRow.lt h.own G e).1
  omega
end
theorem zero_entry (W : World) : (zeroValue 52).run Try.prog W = .ok (.agg #[.string ByteArray.empty, .int .u32 0]) W := by kernel_rfl
theorem info_entry' : (Try.prog.info? 52).map (fun i => (i.zero, i.size, i.bytes)) = some (some (.agg #[.string ByteArray.empty, .int .u32 0]), 2, 24) := by kernel_rfl
theorem run_entry1 (x : Int) (s : ByteArray) (w : World) : (Instr.buildSlice 48 1 #[(0, .agg #[.string s, .int .u32 x])]).run Try.prog w = .ok (.slice (some ⟨w.heap.size, 0, none⟩) 1 1) (w.alloc (.cells #[.string s, .int .u32 x] 52)) := by kernel_rfl
theorem run_entry0 (w : World) : (Instr.buildSlice 48 0 #[]).run Try.prog w = .ok (.slice (some ⟨w.heap.size, 0, none⟩) 0 0) (w.alloc (.cells #[] 52)) := by kernel_rfl

theorem run_ent_h (a : Option Addr) (len cap k : Nat) (hk : k ≤ cap) (w : World) : (Instr.slice 48 (.slice a len cap) none (some (.int .i64 (k : Int))) none).run Try.prog w = .ok (.slice a k cap) w := by
  have hsz : (sizeOf 52).run Try.prog w = .ok 2 w := by kernel_rfl
  rw [run_slice_h w 48 a len cap (by kernel_rfl) .i64 (k : Int) (by omega) (by omega), show Try.prog.elem 48 = 52 from by kernel_rfl, hsz]
  simp only [Result.andThen, sliced, Int.toNat_natCast]
  cases a <;> simp [Addr.add]
theorem run_ent_l (g len cap k : Nat) (hk : k ≤ len) (hc : len ≤ cap) (w : World) : (Instr.slice 48 (.slice (some ⟨g, 0, none⟩) len cap) (some (.int .i64 (k : Int))) none none).run Try.prog w = .ok (.slice (some ⟨g, if cap = k then 0 else k * 2, none⟩) (len - k) (cap - k)) w := by
  have hsz : (sizeOf 52).run Try.prog w = .ok 2 w := by kernel_rfl
  rw [run_slice_l w 48 _ len cap (by kernel_rfl) .i64 (k : Int) (by omega) (by omega), show Try.prog.elem 48 = 52 from by kernel_rfl, hsz]
  simp only [Result.andThen, sliced, Int.toNat_natCast]
  by_cases h : cap = k
  · rw [if_pos h, if_pos h]
  · rw [if_neg h, if_neg h, Option.map_some, addr_add, Nat.zero_add]
theorem ents_news {W : World} {b off n k : Nat} {nm : Nat → ByteArray} {iv : Nat → Int} (h : EnSeg W b off n nm iv) {o : Nat} (ho : k < n → o = off + k * 2) : ∀ (j : Nat) (u : Value), (Ec (fun i => nm (k + i)) (fun i => iv (k + i)) (n - k))[j]? = some u → W.cell? ((⟨b, o, none⟩ : Addr).add j) = some u := by
  intro j u hj
  have hjn : j < (n - k) * 2 := by have := (List.getElem?_eq_some_iff.1 hj).1; rwa [Ec_length] at this
  have hi : j / 2 < n - k := by omega
  obtain ⟨g0, g1⟩ := Ec_get (fun i => nm (k + i)) (fun i => iv (k + i)) (n - k) (j / 2) hi
  obtain ⟨c0, c1⟩ := h (k + j / 2) (by omega)
  rw [addr_add, ho (by omega)]
  by_cases h2 : j % 2 = 0
  · have e : j = j / 2 * 2 := by omega
    have hj' : (Ec (fun i => nm (k + i)) (fun i => iv (k + i)) (n - k))[j / 2 * 2]? = some u := e ▸ hj
    rw [g0] at hj'
    rw [← hj', show off + k * 2 + j = off + (k + j / 2) * 2 by omega]; exact c0
  · have e : j = j / 2 * 2 + 1 := by omega
    have hj' : (Ec (fun i => nm (k + i)) (fun i => iv (k + i)) (n - k))[j / 2 * 2 + 1]? = some u := e ▸ hj
    rw [g1] at hj'
    rw [← hj', show off + k * 2 + j = off + (k + j / 2) * 2 + 1 by omega]; exact c1
theorem entNews (w : World) (x : Int) (s : ByteArray) : ∀ (j : Nat) (u : Value), ([.string s, .int .u32 x] : List Value)[j]? = some u → (w.alloc (.cells #[.string s, .int .u32 x] 52)).cell? ((⟨w.heap.size, 0, none⟩ : Addr).add j) = some u := by
  intro j u hj
  rw [addr_add]
  rcases j with _ | _ | j
  · cases hj; exact cell_of_heap (heap_alloc_new w _) rfl
  · cases hj; exact cell_of_heap (heap_alloc_new w _) rfl
  · cases hj
theorem entOne (x : Int) (s : ByteArray) : ∀ u ∈ ([.string s, .int .u32 x] : List Value), u.oneCell' = true := by
  intro u hu
  simp only [List.mem_cons, List.not_mem_nil, or_false] at hu
  rcases hu with rfl | rfl <;> rfl
/-- the steps of the removal of entry q: a new row is made, the entries ahead are put into it, then those behind -/
structure PmC (w : World) (G : Nat) (z : Nat → Int) (g m cap : Nat) (nm : Nat → ByteArray) (iv : Nat → Int) (q : Nat) (s : Mv.St) (W : World) : Prop extends E8 w G z W where
  old : s.n < 3 → W.ownsRow (G + 1) 52 2 (.slice (some ⟨g, 0, none⟩) (m + 1) cap) (m + 1) (Ec nm iv (m + 1))
  s1 : s.n = 1 → W.ownsRow (G + 1) 52 2 s.v 0 [] ∧ s.v.ownBlock ≠ some g
  s2 : s.n = 2 → W.ownsRow (G + 1) 52 2 s.v q (Ec nm iv q)
  s3 : s.n = 3 → W.ownsRow (G + 1) 52 2 s.v m (Ec (delF nm q) (delF iv q) m)

theorem e8_grown {w : World} {G : Nat} {z : Nat → Int} {W W' : World} {row : Option Nat} (h : E8 w G z W) (hg : W.grownBy W' row) (hr : ∀ k, row = some k → G + 1 ≤ k) : E8 w G z W' :=
  ⟨(hg.block _ h.b.lt (fun e => by have := hr _ e.symm; omega)).trans h.b, h.bel.grown hg h.bel.size (fun k e => by have := hr k e; have := h.ge; omega), h.ge⟩

set_option maxRecDepth 100000 in
set_option maxHeartbeats 4000000 in
theorem play_walk (at' : Option Addr) (N cap0 : Nat) (tn : Nat → ByteArray) (ti : Nat → Int) (ht : ∀ i, (tn i).size ≤ 9223372036854775807 ∧ 0 ≤ ti i ∧ ti i < 4294967296) (hN : (N : Int) ≤ 9223372036854775807) (w : World) (hrow : EnRow w at' N tn ti) :
    Calls Try.prog 6 #[.slice at' N cap0] w fun e w' => e = .returned (.bool true) ∧ Below w.heap.size w w' := by
  have hal := zero_block
  have HR := Lib.hid hrow
  have HT := Lib.hid ht
  clear hrow ht
  go_enter Try.func6, Try.ntmps6
  go_wp2_with fail
  refine (awake8 _).mono ?_
  rintro e w1 ⟨rfl, hL1⟩
  by_cases h20 : 100 < N
  · have d : (100 : Int) < N := by omega
    go_wp2_with fail
    go_ret
    exact ⟨rfl, hL1⟩
  have d : ¬ (100 : Int) < N := by omega
  have HS : Hid (PlS w w1.heap.size z0 none 0 0 noN noI (w1.alloc (.cells (Ks .u8 256 (fun _ => 0)).toArray 23))) := ⟨E8.new hL1, World.ownsRow_nil _ _ _ _⟩
  clear hL1
  go_wp2_with fail
  generalize w1.heap.size = G at *
  have HZ : Hid (∃ z nm iv, Play z 0 nm iv ∧ PlS w G z none 0 0 nm iv (w1.alloc (.cells (Ks .u8 256 (fun _ => 0)).toArray 23))) := ⟨z0, noN, noI, Play.start, HS.out⟩
  clear HS
  go_loopw [4, 5] (fun v u wr => ∃ (i m : Nat) (a : Option Addr) (cap : Nat), i ≤ N ∧ v = .slice a m cap ∧ u = .int .i64 (i : Int) ∧ Hid (∃ z nm iv, Play z m nm iv ∧ PlS w G z a m cap nm iv wr)) (fun _ u _ => N - (intOf u).toNat)
  case atStart => exact ⟨0, 0, none, 0, by omega, rfl, rfl, HZ⟩
  case round =>
    clear HZ
    obtain ⟨i, m, a, cap, hiN, rfl, rfl, HI⟩ := hrel
    obtain ⟨z, nm, iv, hP, st⟩ := HI.out
    have HP := Lib.hid hP
    have hz := hP.byt
    have hm8 := hP.le
    clear hP HI
    by_cases hlt : i < N
    rotate_left
    · obtain rfl : i = N := by omega
      go_wp2_with fail
      go_ret
      exact ⟨rfl, st.bel⟩
    obtain ⟨b, off, rfl, hseg⟩ : ∃ b off, at' = some ⟨b, off, none⟩ ∧ EnSeg w b off N tn ti := by
      rcases HR.out with h | h
      · omega
      · exact h
    have hblt : b < w.heap.size := hseg.lt (by omega)
    have HSG := Lib.hid hseg
    clear hseg
    have l0 : (0 : Int) ≤ (i : Int) := by omega
    have l1 : (i : Int) < (N : Int) := by omega
    obtain ⟨hsz, hi0, hi1⟩ := HT.out i
    have hc0 : ∀ x : InW (PlS w G z a m cap nm iv), x.W.cell? ⟨b, off + i * 2, none⟩ = some (.string (tn i)) := fun x => (HSG.out.below x.h.bel hblt i hlt).1
    have hc1 : ∀ x : InW (PlS w G z a m cap nm iv), x.W.cell? ⟨b, off + i * 2 + 1, none⟩ = some (.int .u32 (ti i)) := fun x => (HSG.out.below x.h.bel hblt i hlt).2
    generalize tn i = s at *
    generalize ti i = v at *
    go_wp2_with fail
    refine wp_region_S (PlS w G z a m cap nm iv) (by kernel_rfl) (by kernel_rfl) st.drew ?_
    clear st
    intro hne
    repeat (first | go_big_quiet_skip | (go_big_quiet_want; go_big_quiet_op; go_big_quiet_on))
    refine wpQuiet_nil ?_
    intro w2 h2
    have st2 := h2.out
    clear h2 hne hc0 hc1
    by_cases h1000 : 1000 < s.size
    · have d2 : (1000 : Int) < s.size := by omega
      go_wp2_with fail
      go_ret
      exact ⟨rfl, st2.bel⟩
    have d2 : ¬ (1000 : Int) < s.size := by omega
    go_wp2_with fail
    go_loopw [8, 9] (fun c u wr => ∃ k : Nat, k ≤ m ∧ c = .int .i64 (atL nm s k) ∧ u = .int .i64 (k : Int) ∧ PlS w G z a m cap nm iv wr) (fun _ u _ => m - (intOf u).toNat)
    case atStart => exact ⟨0, by omega, rfl, rfl, st2⟩
    case round =>
      clear st2
      obtain ⟨k, hk, rfl, rfl, st⟩ := hrel
      by_cases hkm : k < m
      · have m0 : (0 : Int) ≤ (k : Int) := by omega
        have m1 : (k : Int) < (m : Int) := by omega
        obtain ⟨lb, lo, hla, hsg⟩ : ∃ b off, a = some ⟨b, off, none⟩ ∧ EnSeg wr b off m nm iv := by
          rcases own_ents st.own with h | h
          · omega
          · exact h
        subst hla
        have c0 : wr.cell? ⟨lb, lo + k * 2, none⟩ = some (.string (nm k)) := (hsg k hkm).1
        clear hsg
        have HA : Hid (atL nm s (k + 1) = if (nm k).toList == s.toList then (k : Int) else atL nm s k) := rfl
        cases hq : ((nm k).toList == s.toList) with
        | true =>
          have HA1 : Hid (atL nm s (k + 1) = (k : Int)) := by show _ = _; rw [HA.out, hq]; rfl
          clear HA
          go_wp2_with fail
          go_roundw
          case rel => first | exact ⟨k + 1, by omega, by rw [HA1.out], by go_num, st⟩ | ((repeat apply Exists.intro); exact ⟨⟨k + 1, by omega, by rw [HA1.out], by go_num, st⟩, rfl⟩)
          case measure => simp [intOf]; omega
        | false =>
          have HA1 : Hid (atL nm s (k + 1) = atL nm s k) := by show _ = _; rw [HA.out, hq]; rfl
          clear HA
          generalize atL nm s k = c at *
          go_wp2_with fail
          go_roundw
          case rel => first | exact ⟨k + 1, by omega, by rw [HA1.out], by go_num, st⟩ | ((repeat apply Exists.intro); exact ⟨⟨k + 1, by omega, by rw [HA1.out], by go_num, st⟩, rfl⟩)
          case measure => simp [intOf]; omega
      obtain rfl : k = m := by omega
      clear hkm hk
      rcases atL_cases nm s k with ⟨ha, hno⟩ | ⟨q, hqk, ha, hnq⟩
      · rw [ha]
        have HNO := Lib.hid hno
        clear ha hno
        by_cases hv : v = 0
        · subst hv
          have HF : Hid (fS z s = -1) := HP.out.none HNO.out
          go_wp2_with fail
          refine (rem_any G z hz s _ st.b).mono ?_
          rintro e w3 ⟨rfl, hB3, hg3⟩
          rw [show remZ z s = z by unfold remZ; rw [remB_no HF.out]; rfl] at hB3
          have st3 := st.put hB3 hg3
          rw [remB_no HF.out]
          clear st hB3 hg3
          have hB := st3.b
          go_wp2_with (first | (refine wp_loadBlkG rfl _ rfl _ _ rfl hB ?_))
          clear hB
          refine (holds_any _ a k cap _ _ HP.out _ (own_ents st3.own)).mono ?_
          rintro e w5 ⟨rfl, hb5⟩
          have st5 := st3.below hb5
          clear st3 hb5
          go_wp2_with fail
          go_roundw
          case rel => first | exact ⟨i + 1, k, a, cap, by omega, rfl, by go_num, ⟨_, _, _, HP.out, st5⟩⟩ | ((repeat apply Exists.intro); exact ⟨⟨i + 1, k, a, cap, by omega, rfl, by go_num, ⟨_, _, _, HP.out, st5⟩⟩, rfl⟩)
          case measure => simp [intOf]; omega
        have qv : (v == 0) = false := by simpa using hv
        have HV : Hid (v ≠ 0) := hv
        clear hv
        cases hm : mayB s with
        | false =>
          have HB2 := Lib.hid (HP.out.bad (s := s) (v := v) (.inl hm))
          have HM := Lib.hid hm
          clear hm
          go_wp2_with fail
          refine (add_any G z hz s hsz v ⟨hi0, hi1⟩ _ st.b).mono ?_
          rintro e w3 ⟨rfl, hB3, hg3⟩
          rw [addZ_no (by rw [HB2.out]; decide)] at hB3
          have st3 := st.put hB3 hg3
          rw [HB2.out]
          clear st hB3 hg3
          go_wp2_with fail
          refine (mayName_any s hsz _).mono ?_
          rintro e w4 ⟨rfl, rfl⟩
          rw [HM.out]
          have hB := st3.b
          go_wp2_with (first | (refine wp_loadBlkG rfl _ rfl _ _ rfl hB ?_))
          clear hB
          refine (holds_any _ a k cap _ _ HP.out _ (own_ents st3.own)).mono ?_
          rintro e w5 ⟨rfl, hb5⟩
          have st5 := st3.below hb5
          clear st3 hb5
          go_wp2_with fail
          go_roundw
          case rel => first | exact ⟨i + 1, k, a, cap, by omega, rfl, by go_num, ⟨_, _, _, HP.out, st5⟩⟩ | ((repeat apply Exists.intro); exact ⟨⟨i + 1, k, a, cap, by omega, rfl, by go_num, ⟨_, _, _, HP.out, st5⟩⟩, rfl⟩)
          case measure => simp [intOf]; omega
        | true =>
          have HM := Lib.hid hm
          obtain ⟨hp8, hp7⟩ := HP.out.add HV.out ⟨hi0, hi1⟩ hm HNO.out
          clear hm
          by_cases h8 : k = 8
          · have HE := Lib.hid (hp8 h8)
            subst h8
            clear hp8 hp7
            go_wp2_with fail
            refine (add_any G z hz s hsz v ⟨hi0, hi1⟩ _ st.b).mono ?_
            rintro e w3 ⟨rfl, hB3, hg3⟩
            rw [addZ_no (by rw [HE.out]; decide)] at hB3
            have st3 := st.put hB3 hg3
            rw [HE.out]
            clear st hB3 hg3
            go_wp2_with fail
            refine (mayName_any s hsz _).mono ?_
            rintro e w4 ⟨rfl, rfl⟩
            rw [HM.out]
            have hB := st3.b
            go_wp2_with (first | (refine wp_loadBlkG rfl _ rfl _ _ rfl hB ?_))
            clear hB
            refine (holds_any _ a 8 cap _ _ HP.out _ (own_ents st3.own)).mono ?_
            rintro e w5 ⟨rfl, hb5⟩
            have st5 := st3.below hb5
            clear st3 hb5
            go_wp2_with fail
            go_roundw
            case rel => first | exact ⟨i + 1, 8, a, cap, by omega, rfl, by go_num, ⟨_, _, _, HP.out, st5⟩⟩ | ((repeat apply Exists.intro); exact ⟨⟨i + 1, 8, a, cap, by omega, rfl, by go_num, ⟨_, _, _, HP.out, st5⟩⟩, rfl⟩)
            case measure => simp [intOf]; omega
          · obtain ⟨he, hP2⟩ := hp7 h8
            have HE := Lib.hid he
            have HP2 := Lib.hid hP2
            clear hp8 hp7 he hP2
            have q8 : ((k : Int) == 8) = false := by rw [beq_eq_false_iff_ne]; omega
            have l8 : (k : Int) < 8 := by omega
            go_wp2_with fail
            refine (add_any G z hz s hsz v ⟨hi0, hi1⟩ _ st.b).mono ?_
            rintro e w3 ⟨rfl, hB3, hg3⟩
            have st3 := st.put hB3 hg3
            rw [HE.out]
            clear st hB3 hg3
            go_wp2_with fail
            refine (mayName_any s hsz _).mono ?_
            rintro e w4 ⟨rfl, rfl⟩
            rw [HM.out]
            have hbs := run_entry1
            have hown' := World.ownsRow.alloc st3.own (.cells #[.string s, .int .u32 v] 52)
            obtain ⟨i0, hi, hz0, hz1, hz2⟩ := info_parts info_entry'
            have hblt2 := st3.b.lt
            have hnews := entNews w3 v s
            have hone := entOne v s
            clear hal
            go_wp2_with (first | (refine wpList_append_own _ rfl _ _ 48 rfl (G + 1) 52 i0 (.agg #[.string ByteArray.empty, .int .u32 0]) 2 24 Try.underlying48 hi hz0 hz1 hz2 rfl (by decide) _ k _ rfl hown' ⟨w3.heap.size, 0, none⟩ 1 1 [.string s, .int .u32 v] rfl rfl hnews hone (by unfold maxLen; omega) (by omega) (by simp; omega) ?_))
            intro v' w7 hown7 hg7 _
            have hob : ∀ q, (Value.slice a k cap).ownBlock = some q → G + 1 ≤ q := fun q hq => (World.ownsRow.lt hown' q hq).1
            rw [show Ec nm iv k ++ [.string s, .int .u32 v] = Ec (addF nm k s) (addF iv k v) (k + 1) by
              show _ = Ec (addF nm k s) (addF iv k v) k ++ _
              rw [Ec_congr (nm := addF nm k s) (iv := addF iv k v) (nm' := nm) (iv' := iv) (fun i hi => by unfold addF; rw [if_neg (by omega), if_neg (by omega)]; exact ⟨rfl, rfl⟩)]
              unfold addF; rw [if_pos rfl, if_pos rfl]] at hown7
            obtain ⟨a', cap', hv'⟩ := own_slice hown7
            subst hv'
            have st7 : PlS w G (addZ z s v) a' (k + 1) cap' (addF nm k s) (addF iv k v) w7 := ⟨e8_grown (st3.toE8.below ((Below.refl _ _).alloc (Nat.le_refl _) _)) hg7 hob, hown7⟩
            clear st3 hown' hown7 hg7 hbs hnews hone hob
            have hB := st7.b
            go_wp2_with (first | (refine wp_loadBlkG rfl _ rfl _ _ rfl hB ?_))
            clear hB
            refine (holds_any _ a' (k + 1) cap' _ _ HP2.out _ (own_ents st7.own)).mono ?_
            rintro e w5 ⟨rfl, hb5⟩
            have st5 := st7.below hb5
            clear st7 hb5
            go_wp2_with fail
            go_roundw
            case rel => first | exact ⟨i + 1, (k + 1), a', cap', by omega, rfl, by go_num, ⟨_, _, _, HP2.out, st5⟩⟩ | ((repeat apply Exists.intro); exact ⟨⟨i + 1, (k + 1), a', cap', by omega, rfl, by go_num, ⟨_, _, _, HP2.out, st5⟩⟩, rfl⟩)
            case measure => simp [intOf]; omega
      · rw [ha]
        have HNQ := Lib.hid hnq
        clear ha hnq
        by_cases hv : v = 0
        · subst hv
          obtain ⟨k', rfl⟩ : ∃ k', k = k' + 1 := ⟨k - 1, by omega⟩
          obtain ⟨hrem, hP2⟩ := HP.out.remove hqk
          rw [HNQ.out] at hrem hP2
          have HP2 := Lib.hid hP2
          have HRE := Lib.hid hrem
          clear hrem hP2
          go_wp2_with fail
          refine (rem_any G z hz s _ st.b).mono ?_
          rintro e w3 ⟨rfl, hB3, hg3⟩
          have st3 := st.put hB3 hg3
          rw [HRE.out]
          clear st hB3 hg3
          have q0 : (0 : Int) ≤ (q : Int) := by omega
          have q1 : (q : Int) < (k' : Int) + 1 := by omega
          obtain ⟨g, rfl, hgb, hgl⟩ := own_at st3.own (by omega)
          have hcap : k' + 1 ≤ cap ∧ cap ≤ maxLen := by
            rcases st3.own.2 with ⟨hv, _⟩ | ⟨g', cap', cur, hv, hb, hg, hn, hc, _⟩
            · cases hv
            · injection hv with h1 h2 h3; subst h3; exact ⟨hn, hc⟩
          have hx1 := fun W => run_ent_h (some ⟨g, 0, none⟩) (k' + 1) cap q (by omega) W
          obtain ⟨o2, c2, ho2, hx2⟩ : ∃ o2 c2 : Nat, Hid (q + 1 < k' + 1 → o2 = (q + 1) * 2) ∧ ∀ W, (Instr.slice 48 (.slice (some ⟨g, 0, none⟩) (k' + 1) cap) (some (.int .i64 ((q : Int) + 1))) none none).run Try.prog W = .ok (.slice (some ⟨g, o2, none⟩) (k' - q) c2) W :=
            ⟨if cap = q + 1 then 0 else (q + 1) * 2, cap - (q + 1), (fun h => by rw [if_neg (by omega)]), fun W => by have := run_ent_l g (k' + 1) cap (q + 1) (by omega) (by omega) W; rw [show k' + 1 - (q + 1) = k' - q by omega] at this; exact this⟩
          obtain ⟨i0, hi, hz0, hz1, hz2⟩ := info_parts info_entry'
          have e1 : IntKind.i64.wrap ((q : Int) + 1) = (q : Int) + 1 := IntWalk.i64_in _ (by omega)
          go_wp2_with fail
          refine Mv.wp_region_mv (PmC w G (remZ z s) g k' cap nm iv q) ⟨0, undef⟩ (by kernel_rfl) (by kernel_rfl) (by kernel_rfl) ⟨st3.toE8.drew, fun _ => st3.own, (fun h => by cases h), (fun h => by cases h), (fun h => by cases h)⟩ ?_
          clear st3
          intro hne
          refine Mv.lin_build0 rfl _ _ rfl fun W hW => ⟨_, _, ⟨1, .slice (some ⟨W.heap.size, 0, none⟩) 0 0⟩, run_entry0 W, ?_, ?_⟩
          · have hold := hW.old (by decide)
            have hb8 := hW.b.lt
            exact ⟨hW.toE8.below ((Below.refl _ _).alloc (Nat.le_refl _) _), fun _ => World.ownsRow.alloc hold _, fun _ => ⟨⟨by simp, .inr ⟨_, 0, #[], rfl, by omega, heap_alloc_new W _, by omega, by unfold maxLen; omega, by simp, by simp⟩⟩, by have := (World.ownsRow.lt hold g rfl).2; simp [Value.ownBlock]; omega⟩, (fun h => by cases h), (fun h => by cases h)⟩
          generalize W.heap.size = g0 at *
          clear hW
          refine Mv.frame (by simp only [Act.put, List.setIfInBounds_toArray, List.set_cons_succ, List.set_cons_zero]; exact rfl) ?_
          (refine Mv.lin_take 3 (by kernel_rfl) ?_; simp only [List.take_succ_cons, List.take_zero, List.drop_succ_cons, List.drop_zero])
          repeat (first | go_big_quiet_skip | (go_big_quiet_want; go_big_quiet_op; go_big_quiet_on))
          refine wpQuiet_nil ?_
          refine Mv.lin_append rfl _ _ _ rfl fun W hW => ?_
          obtain ⟨v', w', hr, ho, hg, _⟩ := run_append_own (P := Try.prog) W (G + 1) 48 48 52 i0 (.agg #[.string ByteArray.empty, .int .u32 0]) 2 24 Try.underlying48 hi hz0 hz1 hz2 rfl (by decide) (.slice (some ⟨g0, 0, none⟩) 0 0) 0 [] (hW.s1 rfl).1 ⟨g, 0, none⟩ q cap (Ec nm iv q) (Ec_length _ _ _)
            (by
              have hsg := own_ents (hW.old (by show (1 : Nat) < 3; decide))
              rcases hsg with h | ⟨b', o', he, hsg⟩
              · omega
              · injection he with he; injection he with h1 h2; subst h1 h2
                have := ents_news (k := 0) (n := q) (fun i hi => hsg i (by omega)) (o := 0) (fun _ => rfl)
                simpa using this) (Ec_one _ _ _) (by unfold maxLen; omega) (by omega) (by have := hW.b.lt; omega)
          refine ⟨v', w', ⟨2, v'⟩, hr, ?_, ?_⟩
          · rw [Nat.zero_add, List.nil_append] at ho
            have hgg := (hW.s1 rfl).2
            have hg0 := (World.ownsRow.lt (hW.s1 rfl).1 g0 rfl).1
            exact ⟨e8_grown hW.toE8 hg (fun k e => by cases e; exact hg0), fun _ => World.ownsRow.kept (hW.old (by show (1 : Nat) < 3; decide)) hg (.inr (fun e => hgg e.symm)), (fun h => by cases h), fun _ => ho, (fun h => by cases h)⟩
          clear hr ho hg hW
          refine Mv.frame (by simp only [Act.put, List.setIfInBounds_toArray, List.set_cons_succ, List.set_cons_zero]; exact rfl) ?_
          (refine Mv.lin_take 4 (by kernel_rfl) ?_; simp only [List.take_succ_cons, List.take_zero, List.drop_succ_cons, List.drop_zero])
          repeat (first | go_big_quiet_skip | (go_big_quiet_want; go_big_quiet_op; go_big_quiet_on))
          refine wpQuiet_nil ?_
          refine Mv.lin_append rfl _ _ _ rfl fun W hW => ?_
          obtain ⟨v2, w2', hr, ho, hg, _⟩ := run_append_own (P := Try.prog) W (G + 1) 48 48 52 i0 (.agg #[.string ByteArray.empty, .int .u32 0]) 2 24 Try.underlying48 hi hz0 hz1 hz2 rfl (by decide) v' q (Ec nm iv q) (hW.s2 rfl) ⟨g, o2, none⟩ (k' - q) c2 (Ec (fun i => nm (q + 1 + i)) (fun i => iv (q + 1 + i)) (k' - q)) (Ec_length _ _ _)
            (by
              have hsg := own_ents (hW.old (by show (2 : Nat) < 3; decide))
              rcases hsg with h | ⟨b', o', he, hsg⟩
              · omega
              · injection he with he; injection he with h1 h2; subst h1 h2
                have hnw := ents_news hsg (k := q + 1) (o := o2) (fun h => by rw [ho2.out h, Nat.zero_add])
                rw [show k' + 1 - (q + 1) = k' - q by omega] at hnw
                exact hnw) (Ec_one _ _ _) (by unfold maxLen; omega) (by omega) (by have := hW.b.lt; omega)
          refine ⟨v2, w2', ⟨3, v2⟩, hr, ?_, ?_⟩
          · rw [Ec_del _ _ _ _ (by omega), show q + (k' - q) = k' by omega] at ho
            exact ⟨e8_grown hW.toE8 hg (fun k e => (World.ownsRow.lt (hW.s2 rfl) k e).1), (fun h => absurd h (by show ¬ (3 : Nat) < 3; decide)), (fun h => by cases h), (fun h => by cases h), fun _ => ho⟩
          clear hr ho hg hW
          refine Mv.frame (by simp only [Act.put, List.setIfInBounds_toArray, List.set_cons_succ, List.set_cons_zero]; exact rfl) ?_
          (refine Mv.lin_take 1 (by kernel_rfl) ?_; simp only [List.take_succ_cons, List.take_zero, List.drop_succ_cons, List.drop_zero])
          repeat (first | go_big_quiet_skip | (go_big_quiet_want; go_big_quiet_op; go_big_quiet_on))
          refine wpQuiet_nil ?_
          refine Mv.wpLin_nil ?_
          intro w4 h4
          have hown4 := h4.s3 rfl
          obtain ⟨a4, cap4, hv2⟩ := own_slice hown4
          have hv2' : v2 = .slice a4 k' cap4 := hv2
          subst hv2'
          have st4 : PlS w G (remZ z s) a4 k' cap4 (delF nm q) (delF iv q) w4 := ⟨h4.toE8, hown4⟩
          clear h4 hown4 hv2 hne hx1 hx2
          have hB := st4.b
          go_wp2_with (first | (refine wp_loadBlkG rfl _ rfl _ _ rfl hB ?_))
          clear hB
          refine (holds_any (remZ z s) a4 k' cap4 _ _ HP2.out _ (own_ents st4.own)).mono ?_
          rintro e w5 ⟨rfl, hb5⟩
          have st5 := st4.below hb5
          clear st4 hb5
          go_wp2_with fail
          go_roundw
          case rel => first | exact ⟨i + 1, k', a4, cap4, by omega, rfl, by go_num, ⟨_, _, _, HP2.out, st5⟩⟩ | ((repeat apply Exists.intro); exact ⟨⟨i + 1, k', a4, cap4, by omega, rfl, by go_num, ⟨_, _, _, HP2.out, st5⟩⟩, rfl⟩)
          case measure => simp [intOf]; omega
        · have hb2 := HP.out.bad (s := s) (v := v) (.inr ⟨q, hqk, HNQ.out⟩)
          have qv : (v == 0) = false := by simpa using hv
          have HB2 := Lib.hid hb2
          clear hb2 hv
          go_wp2_with fail
          refine (add_any G z hz s hsz v ⟨hi0, hi1⟩ _ st.b).mono ?_
          rintro e w3 ⟨rfl, hB3, hg3⟩
          rw [addZ_no (by rw [HB2.out]; decide)] at hB3
          have st3 := st.put hB3 hg3
          rw [HB2.out]
          clear st hB3 hg3
          have q0 : ¬ (q : Int) < 0 := by omega
          go_wp2_with fail
          refine (mayName_any s hsz _).mono ?_
          rintro e w4 ⟨rfl, rfl⟩
          have q2 : decide ((q : Int) < 0) = false := decide_eq_false (by omega)
          cases mayB s <;> (
            have hB := st3.b
            go_wp2_with (first | (refine wp_loadBlkG rfl _ rfl _ _ rfl hB ?_))
            clear hB
            refine (holds_any _ a k cap _ _ HP.out _ (own_ents st3.own)).mono ?_
            rintro e w5 ⟨rfl, hb5⟩
            have st5 := st3.below hb5
            clear st3 hb5
            go_wp2_with fail
            go_roundw
            case rel => first | exact ⟨i + 1, k, a, cap, by omega, rfl, by go_num, ⟨_, _, _, HP.out, st5⟩⟩ | ((repeat apply Exists.intro); exact ⟨⟨i + 1, k, a, cap, by omega, rfl, by go_num, ⟨_, _, _, HP.out, st5⟩⟩, rfl⟩)
            case measure => simp [intOf]; omega)
end Go.Proofs.Ytmghpmbjimdegaa
