/- Texts of this claim, merged by a program (a claim may have 60 files): Jb5, Jb6. -/
import Derived.Test.YtnbmmhoofilmfaaDoorK09
/- The contract of jblock.writeRows over tags, and of WriteDesc. -/
namespace Go.Proofs.YtnbmmhoofilmfaaDoor
open Go.RowKit
set_option linter.unusedVariables false

theorem zero_tag (W : World) : (zeroValue 169).run Tryd.prog W = .ok (.agg #[.int .u32 0, .bool false]) W := by kernel_rfl
theorem info_tag (b : Int) (x : Bool) : (Tryd.prog.info? 169).map (·.size) = some (#[Value.int .u32 b, .bool x] : Array Value).size := by kernel_rfl
/-- what stands while rows are written -/
structure WrSt (w : World) (G : Nat) (l : Nat → Int) (b off n : Nat) (tb : Nat → Int) (te : Nat → Bool) (W : World) : Prop where
  r : Blk W w.heap.size 32 256 (fun _ => 0)
  g : Blk W G 32 256 (wz l)
  t : TagSeg W b off n tb te
  bel : Below w.heap.size w W
theorem WrSt.below {w W W' : World} {G : Nat} {l : Nat → Int} {b off n : Nat} {tb : Nat → Int} {te : Nat → Bool} (h : WrSt w G l b off n tb te W) (hn : 0 < n) (hb : Below W.heap.size W W') : WrSt w G l b off n tb te W' :=
  ⟨h.r.below hb h.r.lt, h.g.below hb h.g.lt, h.t.below hb (h.t.lt hn), h.bel.trans (hb.mono h.bel.size)⟩
/-- .. with the tag at hand in a block of its own -/
structure WrTag (w : World) (G : Nat) (l : Nat → Int) (b off n : Nat) (tb : Nat → Int) (te : Nat → Bool) (V : Nat) (v : Array Value) (W : World) : Prop extends WrSt w G l b off n tb te W where
  v : At W V 169 v
theorem WrTag.below {w W W' : World} {G : Nat} {l : Nat → Int} {b off n : Nat} {tb : Nat → Int} {te : Nat → Bool} {V : Nat} {v : Array Value} (h : WrTag w G l b off n tb te V v W) (hn : 0 < n) (hb : Below W.heap.size W W') : WrTag w G l b off n tb te V v W' :=
  ⟨h.toWrSt.below hn hb, h.v.below hb h.v.lt⟩
/-- .. and, j calls being over, written -/
structure WrPut (w : World) (G : Nat) (l : Nat → Nat → Int) (b off n : Nat) (tb : Nat → Int) (te : Nat → Bool) (V : Nat) (v : Array Value) (j : Nat) (W : World) : Prop where
  s : WrTag w G (l j) b off n tb te V v W

theorem TagSeg.grown {w w' : World} {b off n G : Nat} {tb : Nat → Int} {te : Nat → Bool} (h : TagSeg w b off n tb te) (hg : w.grownBy w' (some G)) (hb : b ≠ G) : TagSeg w' b off n tb te := fun i hi => by
  have hh := h i hi
  have hbl : w'.heap[b]? = w.heap[b]? := hg.block b (World.block_lt_of_cell? w _ hh.1) (by simpa using hb)
  exact ⟨(show w'.cell? ⟨b, off + i * 2, none⟩ = w.cell? ⟨b, off + i * 2, none⟩ from World.cell?_of_block (w := w) hbl).trans hh.1, (show w'.cell? ⟨b, off + i * 2 + 1, none⟩ = w.cell? ⟨b, off + i * 2 + 1, none⟩ from World.cell?_of_block (w := w) hbl).trans hh.2⟩
theorem tagRange {W : World} {b off n : Nat} {tb : Nat → Int} {te : Nat → Bool} (h : TagSeg W b off n tb te) (i : Nat) (hi : i < n) : W.rangeAt b (off + i * 2) [.int .u32 (tb i), .bool (te i)] := by
  intro j v hj
  rcases j with _ | _ | j
  · cases hj; exact (h i hi).1
  · cases hj; exact (h i hi).2
  · cases hj

set_option maxRecDepth 100000 in
set_option maxHeartbeats 4000000 in
theorem writeRowsT_any (s : Int) (a : Option Addr) (n cap : Nat) (tb : Nat → Int) (te : Nat → Bool) (hs : 0 ≤ s ∧ s < 4294967296) (htb : Wds tb) (hn : (n : Int) ≤ 9223372036854775807) (w : World) (hT : TagRow w a n tb te) :
    Calls Tryd.prog 129 #[.int .u8 1, .int .u32 s, .slice a n cap, .int .i64 30, .int .i64 8, .func (.func 130) #[] #[], .func (.func 131) #[] #[]] w
      fun e w' => e = .returned (.tuple #[bval (jdZ s n tb te), .int .i64 (errOf (jdOk s n tb) 2)]) ∧ Below w.heap.size w w' := by
  obtain ⟨hs0, hs1⟩ := hs
  have hal := zero_block
  have hR0 : Hid (Blk (w.alloc (.cells (Ks .u8 256 (fun _ => 0)).toArray 32)) w.heap.size 32 256 (fun _ => 0)) := Blk.new _ _ _ _
  have hL0 : Hid (Below w.heap.size w (w.alloc (.cells (Ks .u8 256 (fun _ => 0)).toArray 32))) := (Below.refl _ _).alloc (Nat.le_refl _) _
  have HT := Lib.hid hT
  clear hT
  go_enter Tryd.func129, Tryd.ntmps129
  go_wp2_with fail
  refine ((maySeq_any s _).mono (R' := fun e w' => e = .returned (.bool (seqB s)) ∧ Blk w' w.heap.size 32 256 (fun _ => 0) ∧ Below w.heap.size w w') (fun e w' h => ⟨h.1, h.2 ▸ hR0.out, h.2 ▸ hL0.out⟩)).mono ?_
  rintro e W ⟨rfl, hR, hL⟩
  clear hR0 hL0
  by_cases hq : seqB s = true
  rotate_left
  · rw [Bool.not_eq_true] at hq
    have HO : Hid (jdOk s n tb = false) := by show _ = _; unfold jdOk; rw [hq]; rfl
    rw [hq]
    clear hq
    go_wp2_with (first | (refine wp_storeBlk rfl (.tmp 14) (.tmp 34) rfl w.heap.size (fun _ => 0) _ rfl rfl hR ?_))
    intro w2 hR2 ho2
    go_wp2_with fail
    exact bodyPost_ret (results_blk2 rfl _ _ w.heap.size _ rfl hR2) rfl ⟨by rw [jdZ, HO.out]; rfl, hL.trans (ho2.below (by omega))⟩
  by_cases h1 : 1 ≤ n
  rotate_left
  · have HO : Hid (jdOk s n tb = false) := by show _ = _; unfold jdOk; simp [h1]
    rw [hq]
    clear hq
    go_wp2_with (first | (refine wp_storeBlk rfl (.tmp 14) (.tmp 34) rfl w.heap.size (fun _ => 0) _ rfl rfl hR ?_))
    intro w2 hR2 ho2
    go_wp2_with fail
    exact bodyPost_ret (results_blk2 rfl _ _ w.heap.size _ rfl hR2) rfl ⟨by rw [jdZ, HO.out]; rfl, hL.trans (ho2.below (by omega))⟩
  by_cases h2 : n ≤ 30
  rotate_left
  · have HO : Hid (jdOk s n tb = false) := by show _ = _; unfold jdOk; simp [h2]
    rw [hq]
    clear hq
    go_wp2_with (first | (refine wp_storeBlk rfl (.tmp 14) (.tmp 34) rfl w.heap.size (fun _ => 0) _ rfl rfl hR ?_))
    intro w2 hR2 ho2
    go_wp2_with fail
    exact bodyPost_ret (results_blk2 rfl _ _ w.heap.size _ rfl hR2) rfl ⟨by rw [jdZ, HO.out]; rfl, hL.trans (ho2.below (by omega))⟩
  have HQ := Lib.hid hq
  rw [hq]
  clear hq
  obtain ⟨b, off, rfl, hseg⟩ : ∃ b off, a = some ⟨b, off, none⟩ ∧ TagSeg w b off n tb te := by
    rcases HT.out with h | h
    · omega
    · exact h
  have hblt := hseg.lt h1
  have hseg1 := hseg.below hL hblt
  clear HT hseg
  go_wp2_with fail
  refine (begin_any 1 s n _ (by decide) hs0 (by omega)).mono ?_
  rintro e w2 ⟨rfl, hb2⟩
  have hR2 := hR.below hb2 hR.lt
  have hL2 : Below w.heap.size w w2 := hL.trans (hb2.mono hL.size)
  have ht2 := hseg1.below hb2 (by have := hL.size; omega)
  have hn2 := Blk.new w2 32 256 (fun _ => 0)
  clear hR hL hb2 hseg1
  go_wp2_with (first | (refine wp_storeBlk rfl (.tmp 16) (.tmp 40) rfl w2.heap.size (wz (jw 1 s n nz)) _ rfl rfl hn2 ?_))
  intro w3 hB3 ho3
  have hlt := hR2.lt
  have hsz2 := hL2.size
  have st3 : WrSt w w2.heap.size (jw 1 s n (tagR tb te 0)) b off n tb te w3 := ⟨(hR2.alloc _).only ho3 (by omega), hB3.congr fun i hi => wz_congr 64 (fun j _ => tagR_zero s n tb te j) i hi, fun i hi => by
      have h := (ht2.below ((Below.refl w2.heap.size w2).alloc (Nat.le_refl _) (.cells (Ks .u8 256 (fun _ => 0)).toArray 32)) (by omega)) i hi
      exact ⟨(ho3.cell (p := ⟨b, off + i * 2, none⟩) (by simp; omega)).trans h.1, (ho3.cell (p := ⟨b, off + i * 2 + 1, none⟩) (by simp; omega)).trans h.2⟩, (hL2.alloc hL2.size _).trans (ho3.below hL2.size)⟩
  generalize w2.heap.size = G at *
  clear hR2 hL2 hn2 ho3 hB3 ht2 w2
  go_wp2_with fail
  go_loopw [43] (fun u wr => ∃ k : Nat, k ≤ n ∧ u = .int .i64 (k : Int) ∧ Hid (riseB tb k = true) ∧ WrSt w G (jw 1 s n (tagR tb te k)) b off n tb te wr) (fun u _ => n - (intOf u).toNat)
  case atStart => exact ⟨0, by omega, rfl, rfl, st3⟩
  case round =>
    clear st3
    obtain ⟨k, hk, rfl, HRS, st⟩ := hrel
    by_cases hlt2 : k < n
    · have c0 := (st.t k hlt2).1
      have c1 := (st.t k hlt2).2
      have hal2 := zero_tag
      have tg : WrTag w G (jw 1 s n (tagR tb te k)) b off n tb te wr.heap.size #[.int .u32 (tb k), .bool (te k)] (wr.alloc (.cells #[.int .u32 (tb k), .bool (te k)] 169)) := ⟨st.below h1 ((Below.refl _ _).alloc (Nat.le_refl _) _), At.new _ _ _⟩
      go_wp2_with fail
      clear c0 c1 hal2
      have hVG : G < wr.heap.size := st.g.lt
      have hVb : b < wr.heap.size := st.t.lt h1
      generalize wr.alloc (.cells #[.int .u32 (tb k), .bool (te k)] 169) = w4 at tg ⊢
      generalize wr.heap.size = V at tg hVG hVb ⊢
      clear st
      have hbel4 : Hid (∀ W W', WrTag w G (jw 1 s n (tagR tb te k)) b off n tb te V #[.int .u32 (tb k), .bool (te k)] W → Below W.heap.size W W' → WrTag w G (jw 1 s n (tagR tb te k)) b off n tb te V #[.int .u32 (tb k), .bool (te k)] W') := fun W W' h hb => h.below h1 hb
      have htk := htb k
      obtain ⟨htk0, htk1⟩ := htk
      by_cases hk0 : k = 0
      · have e5 : ¬ 0 < k := by omega
        have e6 : ¬ (0 : Int) < (k : Int) := by omega
        have HK0 := Lib.hid hk0
        clear hk0
        refine wp_region_S (WrTag w G (jw 1 s n (tagR tb te k)) b off n tb te V #[.int .u32 (tb k), .bool (te k)]) (by kernel_rfl) (by kernel_rfl) ⟨⟨tg.r, tg.g, tg.t, tg.bel.drew⟩, tg.v⟩ ?_
        intro hne
        repeat (first | go_big_quiet_skip | (go_big_quiet_want; go_big_quiet_op; go_big_quiet_on))
        refine wpQuiet_nil ?_
        intro w5 h5
        have tg5 := h5.out
        clear h5 hne tg
        have HRS1 : Hid (riseB tb (k + 1) = true) := by show _ = _; rw [riseB_succ, HRS.out, HK0.out]; rfl
        clear HRS
        have hsl := fun W => run_sliceBlk G 0 (16 + 8 * k) (24 + 8 * k) (16 + (k : Int) * 8) (16 + (k : Int) * 8 + 8) (by omega) (by omega) (by omega) (by omega) (by omega) W
        simp only [Nat.zero_add, show 24 + 8 * k - (16 + 8 * k) = 8 by omega] at hsl
        have HSL := Lib.hid hsl
        clear hsl
        go_wp2_with fail
        have hsl := HSL.out
        clear HSL
        have m2 : IntKind.i64.wrap (16 + (k : Int) * 8 + 8) = 16 + (k : Int) * 8 + 8 := IntWalk.i64_in _ (by omega)
        refine wp_region_lin (WrPut w G (fun j => if j = 0 then jw 1 s n (tagR tb te k) else jw 1 s n (tagR tb te (k + 1))) b off n tb te V #[.int .u32 (tb k), .bool (te k)]) (by kernel_rfl) (by kernel_rfl) (by kernel_rfl) ⟨⟨⟨tg5.r, tg5.g, tg5.t, tg5.bel.drew⟩, tg5.v⟩⟩ ?_
        intro hne
        (refine lin_take 7 (by kernel_rfl) ?_; simp only [List.take_succ_cons, List.take_zero, List.drop_succ_cons, List.drop_zero])
        first | go_big_quiet_skip | (go_big_quiet_want; go_big_quiet_op; go_big_quiet_on)
        first | go_big_quiet_skip | (go_big_quiet_want; go_big_quiet_op; go_big_quiet_on)
        first | go_big_quiet_skip | (go_big_quiet_want; go_big_quiet_op; go_big_quiet_on)
        first | go_big_quiet_skip | (go_big_quiet_want; go_big_quiet_op; go_big_quiet_on)
        first | go_big_quiet_skip | (go_big_quiet_want; go_big_quiet_op; go_big_quiet_on)
        first | go_big_quiet_skip | (go_big_quiet_want; go_big_quiet_op; go_big_quiet_on)
        refine q_load rfl 169 (.tmp 18) rfl _ _ rfl [.int .u32 (tb k), .bool (te k)] _ (fun W h => let ⟨_, h⟩ := h; h.s.v.range) Tryd.underlying169 rfl (by kernel_rfl) ?_
        refine wpQuiet_frame (by simp only [Act.put, List.setIfInBounds_toArray, List.set_cons_succ, List.set_cons_zero]; exact rfl) ?_
        refine wpQuiet_nil ?_
        refine lin_call rfl rfl 131 #[.slice (some ⟨G, 16 + 8 * k, none⟩) 8 (256 - (16 + 8 * k)), .agg #[.int .u32 (tb k), .bool (te k)]] (.tuple #[]) (fun W => by kernel_rfl) (fun W h => ?c1) ?_
        case c1 =>
          refine (tagPut_any G (jw 1 s n (tagR tb te k)) k (16 + 8 * k) _ (tb k) (te k) htk0 (by omega) (by omega) (by unfold jw tagR; rw [if_neg (by omega), if_neg (by omega), if_neg (by omega), if_neg (by omega), if_neg (by omega)]) W h.s.g).mono ?_
          rintro e w6 ⟨rfl, hB6, hg6⟩
          refine ⟨rfl, ⟨⟨⟨(hg6.block _ h.s.r.lt (by simp; omega)).trans h.s.r, hB6.congr fun i hi => wz_congr 64 (fun j _ => tagR_next s n tb te k j) i hi, h.s.t.grown hg6 (by omega), h.s.bel.grown hg6 h.s.bel.size (fun j e => by cases e; omega)⟩, (hg6.block _ h.s.v.lt (by simp; omega)).trans h.s.v⟩⟩⟩
        refine wpLin_frame (by simp only [Act.put, List.setIfInBounds_toArray, List.set_cons_succ, List.set_cons_zero]; exact rfl) ?_
        refine wpLin_nil ?_
        rintro w6 ⟨tg6⟩
        rw [if_neg (by decide)] at tg6
        clear hne tg5 hsl m2
        go_wp2_with fail
        go_roundw
        case rel => first | exact ⟨k + 1, by omega, by go_num, HRS1, tg6.toWrSt⟩ | ((repeat apply Exists.intro); exact ⟨⟨k + 1, by omega, by go_num, HRS1, tg6.toWrSt⟩, rfl⟩)
        case measure => simp [intOf]; omega
      · have e1 : IntKind.i64.wrap ((k : Int) - 1) = (k : Int) - 1 := IntWalk.i64_in _ (by omega)
        have e2 : (0 : Int) ≤ (k : Int) - 1 := by omega
        have e3 : ((k : Int) - 1).toNat = k - 1 := by omega
        have e4 : (k : Int) - 1 < (n : Int) := by omega
        have e5 : 0 < k := by omega
        have e6 : (0 : Int) < (k : Int) := by omega
        by_cases hri : tb (k - 1) < tb k
        · have d1 : decide (tb k ≤ tb (k - 1)) = false := by simp; omega
          have HRI := Lib.hid hri
          refine wp_region_S (WrTag w G (jw 1 s n (tagR tb te k)) b off n tb te V #[.int .u32 (tb k), .bool (te k)]) (by kernel_rfl) (by kernel_rfl) ⟨⟨tg.r, tg.g, tg.t, tg.bel.drew⟩, tg.v⟩ ?_
          intro hne
          first | go_big_quiet_skip | (go_big_quiet_want; go_big_quiet_op; go_big_quiet_on)
          first | go_big_quiet_skip | (go_big_quiet_want; go_big_quiet_op; go_big_quiet_on)
          first | go_big_quiet_skip | (go_big_quiet_want; go_big_quiet_op; go_big_quiet_on)
          first | go_big_quiet_skip | (go_big_quiet_want; go_big_quiet_op; go_big_quiet_on)
          first | go_big_quiet_skip | (go_big_quiet_want; go_big_quiet_op; go_big_quiet_on)
          first | go_big_quiet_skip | (go_big_quiet_want; go_big_quiet_op; go_big_quiet_on)
          first | go_big_quiet_skip | (go_big_quiet_want; go_big_quiet_op; go_big_quiet_on)
          first | go_big_quiet_skip | (go_big_quiet_want; go_big_quiet_op; go_big_quiet_on)
          refine q_load rfl 169 (.tmp 55) rfl _ _ rfl [.int .u32 (tb (k - 1)), .bool (te (k - 1))] _ (fun W h => tagRange h.t (k - 1) (by omega)) Tryd.underlying169 rfl (by kernel_rfl) ?_
          refine wpQuiet_frame (by simp only [Act.put, List.setIfInBounds_toArray, List.set_cons_succ, List.set_cons_zero]; exact rfl) ?_
          go_big_quiet_want
          go_big_quiet_op
          refine ⟨_, fun s => q_call s (fun W hW => (tagKey_any (tb (k - 1)) (te (k - 1)) W).mono fun e w' h => ⟨h.1, hbel4.out W w' hW h.2⟩), ?_⟩
          go_big_quiet_on
          first | go_big_quiet_skip | (go_big_quiet_want; go_big_quiet_op; go_big_quiet_on)
          refine q_load rfl 169 (.tmp 18) rfl _ _ rfl [.int .u32 (tb k), .bool (te k)] _ (fun W h => h.v.range) Tryd.underlying169 rfl (by kernel_rfl) ?_
          refine wpQuiet_frame (by simp only [Act.put, List.setIfInBounds_toArray, List.set_cons_succ, List.set_cons_zero]; exact rfl) ?_
          go_big_quiet_want
          go_big_quiet_op
          refine ⟨_, fun s => q_call s (fun W hW => (tagKey_any (tb k) (te k) W).mono fun e w' h => ⟨h.1, hbel4.out W w' hW h.2⟩), ?_⟩
          go_big_quiet_on
          first | go_big_quiet_skip | (go_big_quiet_want; go_big_quiet_op; go_big_quiet_on)
          first | go_big_quiet_skip | (go_big_quiet_want; go_big_quiet_op; go_big_quiet_on)
          refine wpQuiet_nil ?_
          intro w5 h5
          have tg5 := h5.out
          clear h5 hne tg e1 e2 e3 e4 d1
          have HRS1 : Hid (riseB tb (k + 1) = true) := by show _ = _; rw [riseB_succ, HRS.out, decide_eq_true HRI.out]; simp
          clear HRS
          have hsl := fun W => run_sliceBlk G 0 (16 + 8 * k) (24 + 8 * k) (16 + (k : Int) * 8) (16 + (k : Int) * 8 + 8) (by omega) (by omega) (by omega) (by omega) (by omega) W
          simp only [Nat.zero_add, show 24 + 8 * k - (16 + 8 * k) = 8 by omega] at hsl
          have HSL := Lib.hid hsl
          clear hsl
          go_wp2_with fail
          have hsl := HSL.out
          clear HSL
          have m2 : IntKind.i64.wrap (16 + (k : Int) * 8 + 8) = 16 + (k : Int) * 8 + 8 := IntWalk.i64_in _ (by omega)
          refine wp_region_lin (WrPut w G (fun j => if j = 0 then jw 1 s n (tagR tb te k) else jw 1 s n (tagR tb te (k + 1))) b off n tb te V #[.int .u32 (tb k), .bool (te k)]) (by kernel_rfl) (by kernel_rfl) (by kernel_rfl) ⟨⟨⟨tg5.r, tg5.g, tg5.t, tg5.bel.drew⟩, tg5.v⟩⟩ ?_
          intro hne
          (refine lin_take 7 (by kernel_rfl) ?_; simp only [List.take_succ_cons, List.take_zero, List.drop_succ_cons, List.drop_zero])
          first | go_big_quiet_skip | (go_big_quiet_want; go_big_quiet_op; go_big_quiet_on)
          first | go_big_quiet_skip | (go_big_quiet_want; go_big_quiet_op; go_big_quiet_on)
          first | go_big_quiet_skip | (go_big_quiet_want; go_big_quiet_op; go_big_quiet_on)
          first | go_big_quiet_skip | (go_big_quiet_want; go_big_quiet_op; go_big_quiet_on)
          first | go_big_quiet_skip | (go_big_quiet_want; go_big_quiet_op; go_big_quiet_on)
          first | go_big_quiet_skip | (go_big_quiet_want; go_big_quiet_op; go_big_quiet_on)
          refine q_load rfl 169 (.tmp 18) rfl _ _ rfl [.int .u32 (tb k), .bool (te k)] _ (fun W h => let ⟨_, h⟩ := h; h.s.v.range) Tryd.underlying169 rfl (by kernel_rfl) ?_
          refine wpQuiet_frame (by simp only [Act.put, List.setIfInBounds_toArray, List.set_cons_succ, List.set_cons_zero]; exact rfl) ?_
          refine wpQuiet_nil ?_
          refine lin_call rfl rfl 131 #[.slice (some ⟨G, 16 + 8 * k, none⟩) 8 (256 - (16 + 8 * k)), .agg #[.int .u32 (tb k), .bool (te k)]] (.tuple #[]) (fun W => by kernel_rfl) (fun W h => ?c2) ?_
          case c2 =>
            refine (tagPut_any G (jw 1 s n (tagR tb te k)) k (16 + 8 * k) _ (tb k) (te k) htk0 (by omega) (by omega) (by unfold jw tagR; rw [if_neg (by omega), if_neg (by omega), if_neg (by omega), if_neg (by omega), if_neg (by omega)]) W h.s.g).mono ?_
            rintro e w6 ⟨rfl, hB6, hg6⟩
            refine ⟨rfl, ⟨⟨⟨(hg6.block _ h.s.r.lt (by simp; omega)).trans h.s.r, hB6.congr fun i hi => wz_congr 64 (fun j _ => tagR_next s n tb te k j) i hi, h.s.t.grown hg6 (by omega), h.s.bel.grown hg6 h.s.bel.size (fun j e => by cases e; omega)⟩, (hg6.block _ h.s.v.lt (by simp; omega)).trans h.s.v⟩⟩⟩
          refine wpLin_frame (by simp only [Act.put, List.setIfInBounds_toArray, List.set_cons_succ, List.set_cons_zero]; exact rfl) ?_
          refine wpLin_nil ?_
          rintro w6 ⟨tg6⟩
          rw [if_neg (by decide)] at tg6
          clear hne tg5 hsl m2
          go_wp2_with fail
          go_roundw
          case rel => first | exact ⟨k + 1, by omega, by go_num, HRS1, tg6.toWrSt⟩ | ((repeat apply Exists.intro); exact ⟨⟨k + 1, by omega, by go_num, HRS1, tg6.toWrSt⟩, rfl⟩)
          case measure => simp [intOf]; omega
        · have d1 : decide (tb k ≤ tb (k - 1)) = true := by simp; omega
          have HO : Hid (jdOk s n tb = false) := by show _ = _; unfold jdOk; rw [riseB_no e5 hlt2 hri]; simp
          refine wp_region_S (WrTag w G (jw 1 s n (tagR tb te k)) b off n tb te V #[.int .u32 (tb k), .bool (te k)]) (by kernel_rfl) (by kernel_rfl) ⟨⟨tg.r, tg.g, tg.t, tg.bel.drew⟩, tg.v⟩ ?_
          intro hne
          first | go_big_quiet_skip | (go_big_quiet_want; go_big_quiet_op; go_big_quiet_on)
          first | go_big_quiet_skip | (go_big_quiet_want; go_big_quiet_op; go_big_quiet_on)
          first | go_big_quiet_skip | (go_big_quiet_want; go_big_quiet_op; go_big_quiet_on)
          first | go_big_quiet_skip | (go_big_quiet_want; go_big_quiet_op; go_big_quiet_on)
          first | go_big_quiet_skip | (go_big_quiet_want; go_big_quiet_op; go_big_quiet_on)
          first | go_big_quiet_skip | (go_big_quiet_want; go_big_quiet_op; go_big_quiet_on)
          first | go_big_quiet_skip | (go_big_quiet_want; go_big_quiet_op; go_big_quiet_on)
          first | go_big_quiet_skip | (go_big_quiet_want; go_big_quiet_op; go_big_quiet_on)
          refine q_load rfl 169 (.tmp 55) rfl _ _ rfl [.int .u32 (tb (k - 1)), .bool (te (k - 1))] _ (fun W h => tagRange h.t (k - 1) (by omega)) Tryd.underlying169 rfl (by kernel_rfl) ?_
          refine wpQuiet_frame (by simp only [Act.put, List.setIfInBounds_toArray, List.set_cons_succ, List.set_cons_zero]; exact rfl) ?_
          go_big_quiet_want
          go_big_quiet_op
          refine ⟨_, fun s => q_call s (fun W hW => (tagKey_any (tb (k - 1)) (te (k - 1)) W).mono fun e w' h => ⟨h.1, hbel4.out W w' hW h.2⟩), ?_⟩
          go_big_quiet_on
          first | go_big_quiet_skip | (go_big_quiet_want; go_big_quiet_op; go_big_quiet_on)
          refine q_load rfl 169 (.tmp 18) rfl _ _ rfl [.int .u32 (tb k), .bool (te k)] _ (fun W h => h.v.range) Tryd.underlying169 rfl (by kernel_rfl) ?_
          refine wpQuiet_frame (by simp only [Act.put, List.setIfInBounds_toArray, List.set_cons_succ, List.set_cons_zero]; exact rfl) ?_
          go_big_quiet_want
          go_big_quiet_op
          refine ⟨_, fun s => q_call s (fun W hW => (tagKey_any (tb k) (te k) W).mono fun e w' h => ⟨h.1, hbel4.out W w' hW h.2⟩), ?_⟩
          go_big_quiet_on
          first | go_big_quiet_skip | (go_big_quiet_want; go_big_quiet_op; go_big_quiet_on)
          first | go_big_quiet_skip | (go_big_quiet_want; go_big_quiet_op; go_big_quiet_on)
          refine wpQuiet_nil ?_
          intro w5 h5
          have tg5 := h5.out
          have hr5 := tg5.r
          clear h5 hne tg e1 e2 e3 e4 d1
          go_wp2_with (first | (refine wp_storeBlk rfl (.tmp 14) (.tmp 63) rfl w.heap.size (fun _ => 0) _ rfl rfl hr5 ?_))
          intro w6 hR6 ho6
          go_wp2_with fail
          exact bodyPost_ret (results_blk2 rfl _ _ w.heap.size _ rfl hR6) rfl ⟨by rw [jdZ, HO.out]; rfl, tg5.bel.trans (ho6.below (Nat.le_refl _))⟩
    · obtain rfl : k = n := by omega
      have HO : Hid (jdOk s k tb = true) := by show _ = _; unfold jdOk; rw [HQ.out, HRS.out]; simp [h1, h2]
      have hg := st.g
      have hr := st.r
      go_wp2_with (first | (refine wp_loadBlk rfl (.tmp 16) rfl G (wz (jw 1 s k (tagR tb te k))) rfl hg ?_) | (refine wp_storeBlk rfl (.tmp 14) (.tmp 77) rfl w.heap.size (wz (jw 1 s k (tagR tb te k))) _ rfl rfl hr ?_))
      intro w6 hR6 ho6
      go_wp2_with fail
      exact bodyPost_ret (results_blk2 rfl _ _ w.heap.size _ rfl hR6) rfl ⟨by rw [jdZ, HO.out]; rfl, st.bel.trans (ho6.below (Nat.le_refl _))⟩

set_option maxRecDepth 100000 in
set_option maxHeartbeats 1000000 in
theorem writeDesc_any (s : Int) (a : Option Addr) (n cap : Nat) (tb : Nat → Int) (te : Nat → Bool) (hs : 0 ≤ s ∧ s < 4294967296) (htb : Wds tb) (hn : (n : Int) ≤ 9223372036854775807) (w : World) (hT : TagRow w a n tb te) :
    Calls Tryd.prog 92 #[.int .u32 s, .slice a n cap] w fun e w' => e = .returned (.tuple #[bval (jdZ s n tb te), .int .i64 (errOf (jdOk s n tb) 2)]) ∧ Below w.heap.size w w' := by
  have hal := zero_block
  have hR0 : Hid (Blk (w.alloc (.cells (Ks .u8 256 (fun _ => 0)).toArray 32)) w.heap.size 32 256 (fun _ => 0)) := Blk.new _ _ _ _
  have hL0 : Hid (Below w.heap.size w (w.alloc (.cells (Ks .u8 256 (fun _ => 0)).toArray 32))) := (Below.refl _ _).alloc (Nat.le_refl _) _
  have hT0 : Hid (TagRow (w.alloc (.cells (Ks .u8 256 (fun _ => 0)).toArray 32)) a n tb te) := hT.below ((Below.refl _ _).alloc (Nat.le_refl _) _)
  clear hT
  go_enter Tryd.func92, Tryd.ntmps92
  go_wp2_with fail
  refine (writeRowsT_any s a n cap tb te hs htb hn _ hT0.out).mono ?_
  rintro e w1 ⟨rfl, hb1⟩
  have hR1 := hR0.out.below hb1 hR0.out.lt
  have hL1 : Below w.heap.size w w1 := hL0.out.trans (hb1.mono hL0.out.size)
  clear hR0 hL0 hT0 hb1 hal
  go_wp2_with (first | (refine wp_storeBlk rfl (.tmp 4) (.tmp 9) rfl w.heap.size (jdZ s n tb te) _ rfl rfl hR1 ?_))
  intro w2 hR2 ho2
  go_wp2_with fail
  exact bodyPost_ret (results_blk2 rfl _ _ w.heap.size _ rfl hR2) rfl ⟨rfl, hL1.trans (ho2.below (Nat.le_refl _))⟩
end Go.Proofs.YtnbmmhoofilmfaaDoor

/- Contracts of jblock.ReadHead, of writeRows over numbers, and of WriteRevoke. -/
namespace Go.Proofs.YtnbmmhoofilmfaaDoor
open Go.RowKit
set_option linter.unusedVariables false

/-- n numbers stand at a place -/
def NumSeg (w : World) (b off n : Nat) (m : Nat → Int) : Prop := ∀ i, i < n → w.cell? ⟨b, off + i, none⟩ = some (.int .u32 (m i))
def NumRow (w : World) (a : Option Addr) (n : Nat) (m : Nat → Int) : Prop := n = 0 ∨ ∃ b off, a = some ⟨b, off, none⟩ ∧ NumSeg w b off n m
theorem NumSeg.below {w w' : World} {b off n : Nat} {m : Nat → Int} (h : NumSeg w b off n m) {B : Nat} (hb : Below B w w') (hB : b < B) : NumSeg w' b off n m :=
  fun i hi => (hb.cell (p := ⟨b, off + i, none⟩) hB).trans (h i hi)
theorem NumSeg.lt {w : World} {b off n : Nat} {m : Nat → Int} (h : NumSeg w b off n m) (hn : 0 < n) : b < w.heap.size := World.block_lt_of_cell? w _ (h 0 hn)
theorem NumSeg.only {w w' : World} {b off n g : Nat} {m : Nat → Int} (h : NumSeg w b off n m) (hb : Only g w w') (hg : b ≠ g) : NumSeg w' b off n m :=
  fun i hi => (hb.cell (p := ⟨b, off + i, none⟩) hg).trans (h i hi)
theorem NumRow.below {w w' : World} {a : Option Addr} {n : Nat} {m : Nat → Int} (h : NumRow w a n m) (hb : Below w.heap.size w w') : NumRow w' a n m := by
  rcases h with h | ⟨b, off, rfl, h⟩
  · exact .inl h
  · by_cases h0 : n = 0
    · exact .inl h0
    · exact .inr ⟨b, off, rfl, h.below hb (h.lt (by omega))⟩
/-- the rows of the first k numbers -/
def numR (m : Nat → Int) (k : Nat) (j : Nat) : Int := if j < k then m j else 0
def revOk (s : Int) (n : Nat) (m : Nat → Int) : Bool := seqB s && (decide (1 ≤ n ∧ n ≤ 60) && riseB m n)
def revZ (s : Int) (n : Nat) (m : Nat → Int) : Nat → Int := if revOk s n m then wz (jw 3 s n (numR m n)) else fun _ => 0
theorem numR_next (s n : Int) (m : Nat → Int) (k j : Nat) : upd (jw 3 s n (numR m k)) (4 + k) (m k) j = jw 3 s n (numR m (k + 1)) j := by
  unfold upd
  by_cases h4 : j = 4 + k
  · rw [if_pos h4]
    unfold jw numR
    rw [if_neg (by omega), if_neg (by omega), if_neg (by omega), if_neg (by omega), if_pos (by omega), show j - 4 = k by omega]
  rw [if_neg h4]
  unfold jw
  split
  · rfl
  · split
    · rfl
    · split
      · rfl
      · split
        · rfl
        · unfold numR
          by_cases c : j - 4 < k
          · rw [if_pos c, if_pos (by omega)]
          · rw [if_neg c, if_neg (by omega)]
theorem numR_zero (s n : Int) (m : Nat → Int) (j : Nat) : jw 3 s n nz j = jw 3 s n (numR m 0) j := by
  unfold jw numR nz
  simp

theorem numKey_any (b : Int) (w : World) : Calls Tryd.prog 133 #[.int .u32 b] w fun e w' => e = .returned (.int .u32 b) ∧ w = w' := by
  go_enter Tryd.func133, Tryd.ntmps133
  go_wp2
  go_ret
  exact ⟨rfl, rfl⟩
theorem numPut_any (g : Nat) {T : TypeId} (l : Nat → Int) (k o cap : Nat) (b : Int) (hb : 0 ≤ b) (ho : o = 4 * (4 + k)) (hk : k < 60) (w : World) (hB : Blk w g T 256 (wz l)) :
    Calls Tryd.prog 134 #[.slice (some ⟨g, o, none⟩) 4 cap, .int .u32 b] w fun e w' => e = .returned (.tuple #[]) ∧ Blk w' g T 256 (wz (upd l (4 + k) b)) ∧ Only g w w' := by
  have HO := Lib.hid ho
  clear ho
  go_enter Tryd.func134, Tryd.ntmps134
  go_wp2_with fail
  refine (putWs g l o 4 cap 0 b (4 + k) (by rw [HO.out]; omega) (by decide) (by decide) (by rw [HO.out]; omega) hb _ hB).mono ?_
  rintro e w1 ⟨rfl, hB1, ho1⟩
  go_wp2_with fail
  go_end0
  exact ⟨rfl, hB1, ho1⟩

structure NrSt (w : World) (G : Nat) (l : Nat → Int) (b off n : Nat) (m : Nat → Int) (W : World) : Prop where
  r : Blk W w.heap.size 32 256 (fun _ => 0)
  g : Blk W G 32 256 (wz l)
  t : NumSeg W b off n m
  bel : Below w.heap.size w W

set_option maxRecDepth 100000 in
set_option maxHeartbeats 4000000 in
theorem writeRowsN_any (s : Int) (a : Option Addr) (n cap : Nat) (m : Nat → Int) (hs : 0 ≤ s ∧ s < 4294967296) (hm : Wds m) (hn : (n : Int) ≤ 9223372036854775807) (w : World) (hT : NumRow w a n m) :
    Calls Tryd.prog 132 #[.int .u8 3, .int .u32 s, .slice a n cap, .int .i64 60, .int .i64 4, .func (.func 133) #[] #[], .func (.func 134) #[] #[]] w
      fun e w' => e = .returned (.tuple #[bval (revZ s n m), .int .i64 (errOf (revOk s n m) 2)]) ∧ Below w.heap.size w w' := by
  obtain ⟨hs0, hs1⟩ := hs
  have hal := zero_block
  have hR0 : Hid (Blk (w.alloc (.cells (Ks .u8 256 (fun _ => 0)).toArray 32)) w.heap.size 32 256 (fun _ => 0)) := Blk.new _ _ _ _
  have hL0 : Hid (Below w.heap.size w (w.alloc (.cells (Ks .u8 256 (fun _ => 0)).toArray 32))) := (Below.refl _ _).alloc (Nat.le_refl _) _
  have HT := Lib.hid hT
  clear hT
  go_enter Tryd.func132, Tryd.ntmps132
  go_wp2_with fail
  refine ((maySeq_any s _).mono (R' := fun e w' => e = .returned (.bool (seqB s)) ∧ Blk w' w.heap.size 32 256 (fun _ => 0) ∧ Below w.heap.size w w') (fun e w' h => ⟨h.1, h.2 ▸ hR0.out, h.2 ▸ hL0.out⟩)).mono ?_
  rintro e W ⟨rfl, hR, hL⟩
  clear hR0 hL0
  by_cases hq : seqB s = true
  rotate_left
  · rw [Bool.not_eq_true] at hq
    have HO : Hid (revOk s n m = false) := by show _ = _; unfold revOk; rw [hq]; rfl
    rw [hq]
    clear hq
    go_wp2_with (first | (refine wp_storeBlk rfl (.tmp 14) (.tmp 34) rfl w.heap.size (fun _ => 0) _ rfl rfl hR ?_))
    intro w2 hR2 ho2
    go_wp2_with fail
    exact bodyPost_ret (results_blk2 rfl _ _ w.heap.size _ rfl hR2) rfl ⟨by rw [revZ, HO.out]; rfl, hL.trans (ho2.below (by omega))⟩
  by_cases h1 : 1 ≤ n
  rotate_left
  · have HO : Hid (revOk s n m = false) := by show _ = _; unfold revOk; simp [h1]
    rw [hq]
    clear hq
    go_wp2_with (first | (refine wp_storeBlk rfl (.tmp 14) (.tmp 34) rfl w.heap.size (fun _ => 0) _ rfl rfl hR ?_))
    intro w2 hR2 ho2
    go_wp2_with fail
    exact bodyPost_ret (results_blk2 rfl _ _ w.heap.size _ rfl hR2) rfl ⟨by rw [revZ, HO.out]; rfl, hL.trans (ho2.below (by omega))⟩
  by_cases h2 : n ≤ 60
  rotate_left
  · have HO : Hid (revOk s n m = false) := by show _ = _; unfold revOk; simp [h2]
    rw [hq]
    clear hq
    go_wp2_with (first | (refine wp_storeBlk rfl (.tmp 14) (.tmp 34) rfl w.heap.size (fun _ => 0) _ rfl rfl hR ?_))
    intro w2 hR2 ho2
    go_wp2_with fail
    exact bodyPost_ret (results_blk2 rfl _ _ w.heap.size _ rfl hR2) rfl ⟨by rw [revZ, HO.out]; rfl, hL.trans (ho2.below (by omega))⟩
  have HQ := Lib.hid hq
  rw [hq]
  clear hq
  obtain ⟨b, off, rfl, hseg⟩ : ∃ b off, a = some ⟨b, off, none⟩ ∧ NumSeg w b off n m := by
    rcases HT.out with h | h
    · omega
    · exact h
  have hblt := hseg.lt h1
  have hseg1 := hseg.below hL hblt
  clear HT hseg
  go_wp2_with fail
  refine (begin_any 3 s n _ (by decide) hs0 (by omega)).mono ?_
  rintro e w2 ⟨rfl, hb2⟩
  have hR2 := hR.below hb2 hR.lt
  have hL2 : Below w.heap.size w w2 := hL.trans (hb2.mono hL.size)
  have ht2 := hseg1.below hb2 (by have := hL.size; omega)
  have hn2 := Blk.new w2 32 256 (fun _ => 0)
  clear hR hL hb2 hseg1
  go_wp2_with (first | (refine wp_storeBlk rfl (.tmp 16) (.tmp 40) rfl w2.heap.size (wz (jw 3 s n nz)) _ rfl rfl hn2 ?_))
  intro w3 hB3 ho3
  have hlt := hR2.lt
  have hsz2 := hL2.size
  have st3 : NrSt w w2.heap.size (jw 3 s n (numR m 0)) b off n m w3 := ⟨(hR2.alloc _).only ho3 (by omega), hB3.congr fun i hi => wz_congr 64 (fun j _ => numR_zero s n m j) i hi,
      (ht2.below ((Below.refl w2.heap.size w2).alloc (Nat.le_refl _) (.cells (Ks .u8 256 (fun _ => 0)).toArray 32)) (by omega)).only ho3 (by omega), (hL2.alloc hL2.size _).trans (ho3.below hL2.size)⟩
  generalize w2.heap.size = G at *
  clear hR2 hL2 hn2 ho3 hB3 ht2 w2
  go_wp2_with fail
  go_loopw [43] (fun u wr => ∃ k : Nat, k ≤ n ∧ u = .int .i64 (k : Int) ∧ Hid (riseB m k = true) ∧ NrSt w G (jw 3 s n (numR m k)) b off n m wr) (fun u _ => n - (intOf u).toNat)
  case atStart => exact ⟨0, by omega, rfl, rfl, st3⟩
  case round =>
    clear st3
    obtain ⟨k, hk, rfl, HRS, st⟩ := hrel
    by_cases hlt2 : k < n
    · have c0 := st.t k hlt2
      obtain ⟨hm0, hm1⟩ := hm k
      have hsl := fun W => run_sliceBlk G 0 (16 + 4 * k) (20 + 4 * k) (16 + (k : Int) * 4) (16 + (k : Int) * 4 + 4) (by omega) (by omega) (by omega) (by omega) (by omega) W
      simp only [Nat.zero_add, show 20 + 4 * k - (16 + 4 * k) = 4 by omega] at hsl
      by_cases hk0 : k = 0
      · have e5 : ¬ 0 < k := by omega
        have HRS1 : Hid (riseB m (k + 1) = true) := by show _ = _; rw [riseB_succ, HRS.out, hk0]; rfl
        clear hk0
        go_wp2_with fail
        refine (numPut_any G (jw 3 s n (numR m k)) k (16 + 4 * k) _ (m k) hm0 (by omega) (by omega) _ st.g).mono ?_
        rintro e w6 ⟨rfl, hB6, ho6⟩
        have st6 : NrSt w G (jw 3 s n (numR m (k + 1))) b off n m w6 := ⟨st.r.only ho6 (by omega), hB6.congr fun i hi => wz_congr 64 (fun j _ => numR_next s n m k j) i hi, st.t.only ho6 (by omega), st.bel.trans (ho6.below (by omega))⟩
        clear st hsl c0
        go_wp2_with fail
        go_roundw
        case rel => first | exact ⟨k + 1, by omega, by go_num, HRS1, st6⟩ | ((repeat apply Exists.intro); exact ⟨⟨k + 1, by omega, by go_num, HRS1, st6⟩, rfl⟩)
        case measure => simp [intOf]; omega
      · have c1 : wr.cell? ⟨b, off + (k - 1), none⟩ = some (.int .u32 (m (k - 1))) := st.t (k - 1) (by omega)
        have e2 : ((k : Int) - 1).toNat = k - 1 := by omega
        have e5 : 0 < k := by omega
        have HE2 := Lib.hid e2
        clear e2
        by_cases hri : m (k - 1) < m k
        · have HRS1 : Hid (riseB m (k + 1) = true) := by show _ = _; rw [riseB_succ, HRS.out, decide_eq_true hri]; simp
          have d1 : decide (m k ≤ m (k - 1)) = false := by simp; omega
          have e2 := HE2.out
          go_wp2_with fail
          refine (numKey_any _ _).mono ?_
          rintro e w4 ⟨rfl, rfl⟩
          go_wp2_with fail
          refine (numKey_any _ _).mono ?_
          rintro e w5 ⟨rfl, rfl⟩
          go_wp2_with fail
          refine (numPut_any G (jw 3 s n (numR m k)) k (16 + 4 * k) _ (m k) hm0 (by omega) (by omega) _ st.g).mono ?_
          rintro e w6 ⟨rfl, hB6, ho6⟩
          have st6 : NrSt w G (jw 3 s n (numR m (k + 1))) b off n m w6 := ⟨st.r.only ho6 (by omega), hB6.congr fun i hi => wz_congr 64 (fun j _ => numR_next s n m k j) i hi, st.t.only ho6 (by omega), st.bel.trans (ho6.below (by omega))⟩
          clear st hsl c0 c1 e2 d1
          go_wp2_with fail
          go_roundw
          case rel => first | exact ⟨k + 1, by omega, by go_num, HRS1, st6⟩ | ((repeat apply Exists.intro); exact ⟨⟨k + 1, by omega, by go_num, HRS1, st6⟩, rfl⟩)
          case measure => simp [intOf]; omega
        · have HO : Hid (revOk s n m = false) := by show _ = _; unfold revOk; rw [riseB_no e5 hlt2 hri]; simp
          have d1 : decide (m k ≤ m (k - 1)) = true := by simp; omega
          have e2 := HE2.out
          have hr := st.r
          clear hsl
          go_wp2_with fail
          refine (numKey_any _ _).mono ?_
          rintro e w4 ⟨rfl, rfl⟩
          go_wp2_with fail
          refine (numKey_any _ _).mono ?_
          rintro e w5 ⟨rfl, rfl⟩
          go_wp2_with (first | (refine wp_storeBlk rfl (.tmp 14) (.tmp 63) rfl w.heap.size (fun _ => 0) _ rfl rfl hr ?_))
          intro w6 hR6 ho6
          go_wp2_with fail
          exact bodyPost_ret (results_blk2 rfl _ _ w.heap.size _ rfl hR6) rfl ⟨by rw [revZ, HO.out]; rfl, st.bel.trans (ho6.below (Nat.le_refl _))⟩
    · obtain rfl : k = n := by omega
      have HO : Hid (revOk s k m = true) := by show _ = _; unfold revOk; rw [HQ.out, HRS.out]; simp [h1, h2]
      have hg := st.g
      have hr := st.r
      go_wp2_with (first | (refine wp_loadBlk rfl (.tmp 16) rfl G (wz (jw 3 s k (numR m k))) rfl hg ?_) | (refine wp_storeBlk rfl (.tmp 14) (.tmp 77) rfl w.heap.size (wz (jw 3 s k (numR m k))) _ rfl rfl hr ?_))
      intro w6 hR6 ho6
      go_wp2_with fail
      exact bodyPost_ret (results_blk2 rfl _ _ w.heap.size _ rfl hR6) rfl ⟨by rw [revZ, HO.out]; rfl, st.bel.trans (ho6.below (Nat.le_refl _))⟩

set_option maxRecDepth 100000 in
set_option maxHeartbeats 1000000 in
theorem writeRevoke_any (s : Int) (a : Option Addr) (n cap : Nat) (m : Nat → Int) (hs : 0 ≤ s ∧ s < 4294967296) (hm : Wds m) (hn : (n : Int) ≤ 9223372036854775807) (w : World) (hT : NumRow w a n m) :
    Calls Tryd.prog 94 #[.int .u32 s, .slice a n cap] w fun e w' => e = .returned (.tuple #[bval (revZ s n m), .int .i64 (errOf (revOk s n m) 2)]) ∧ Below w.heap.size w w' := by
  have hal := zero_block
  have hR0 : Hid (Blk (w.alloc (.cells (Ks .u8 256 (fun _ => 0)).toArray 32)) w.heap.size 32 256 (fun _ => 0)) := Blk.new _ _ _ _
  have hL0 : Hid (Below w.heap.size w (w.alloc (.cells (Ks .u8 256 (fun _ => 0)).toArray 32))) := (Below.refl _ _).alloc (Nat.le_refl _) _
  have hT0 : Hid (NumRow (w.alloc (.cells (Ks .u8 256 (fun _ => 0)).toArray 32)) a n m) := hT.below ((Below.refl _ _).alloc (Nat.le_refl _) _)
  clear hT
  go_enter Tryd.func94, Tryd.ntmps94
  go_wp2_with fail
  refine (writeRowsN_any s a n cap m hs hm hn _ hT0.out).mono ?_
  rintro e w1 ⟨rfl, hb1⟩
  have hR1 := hR0.out.below hb1 hR0.out.lt
  have hL1 : Below w.heap.size w w1 := hL0.out.trans (hb1.mono hL0.out.size)
  clear hR0 hL0 hT0 hb1 hal
  go_wp2_with (first | (refine wp_storeBlk rfl (.tmp 4) (.tmp 9) rfl w.heap.size (revZ s n m) _ rfl rfl hR1 ?_))
  intro w2 hR2 ho2
  go_wp2_with fail
  exact bodyPost_ret (results_blk2 rfl _ _ w.heap.size _ rfl hR2) rfl ⟨rfl, hL1.trans (ho2.below (Nat.le_refl _))⟩

/-- the head that a block tells -/
def hdS (z : Nat → Int) : Int := if headRd z then seqOf z else 0
def hdT (z : Nat → Int) : Int := if headRd z then wd z 3 else 0
theorem zero_head (W : World) : (zeroValue 36).run Tryd.prog W = .ok (.agg #[.int .u32 0, .int .i64 0]) W := by kernel_rfl
theorem info_head (s t : Int) : (Tryd.prog.info? 36).map (·.size) = some (#[Value.int .u32 s, .int .i64 t] : Array Value).size := by kernel_rfl
theorem one_head (s t : Int) : (#[Value.int .u32 s, .int .i64 t] : Array Value).all (·.oneCell') = true := by simp [Value.oneCell']
theorem results_head {fn : Func} {p u : Tmp} (h : fn.results = #[.cell p 36, .tmp u]) (tmps : Array Value) (w : World) (g : Nat) (s t : Int)
    (hp : tmps.getD p undef = .pointer (some ⟨g, 0, none⟩)) (hg : At w g 36 #[.int .u32 s, .int .i64 t]) : (results fn tmps).run Tryd.prog w = .ok (.tuple #[.agg #[.int .u32 s, .int .i64 t], tmps.getD u undef]) w :=
  results_row_tmp h tmps w g 36 _ (0, 0) _ hp hg Tryd.underlying36 rfl (info_head _ _)

set_option maxRecDepth 100000 in
set_option maxHeartbeats 2000000 in
theorem readHead_any (z : Nat → Int) (hz : Byt z) (w : World) :
    Calls Tryd.prog 55 #[bval z] w fun e w' => e = .returned (.tuple #[.agg #[.int .u32 (hdS z), .int .i64 (hdT z)], .int .i64 (errOf (headRd z) 90)]) ∧ Below w.heap.size w w' := by
  have hal := zero_head
  have hB0 : Hid (Blk ((w.alloc (.cells (Ks .u8 256 z).toArray 32)).alloc (.cells #[.int .u32 0, .int .i64 0] 36)) w.heap.size 32 256 z) := (Blk.new _ _ _ _).alloc _
  have hR0 : Hid (At ((w.alloc (.cells (Ks .u8 256 z).toArray 32)).alloc (.cells #[.int .u32 0, .int .i64 0] 36)) (w.heap.size + 1) 36 #[.int .u32 0, .int .i64 0]) := by
    have := At.new (w.alloc (.cells (Ks .u8 256 z).toArray 32)) 36 #[.int .u32 0, .int .i64 0]
    simp only [World.size_alloc] at this
    exact this
  have hL0 : Hid (Below w.heap.size w ((w.alloc (.cells (Ks .u8 256 z).toArray 32)).alloc (.cells #[.int .u32 0, .int .i64 0] 36))) := ((Below.refl _ _).alloc (Nat.le_refl _) _).alloc (by simp) _
  obtain ⟨hw30, hw31⟩ := wd_wds hz 3
  have hBB := hB0.out
  go_enter Tryd.func55, Tryd.ntmps55
  go_wp2_with (first | (refine wp_loadBlk rfl (.tmp 1) rfl w.heap.size z rfl hBB ?_))
  refine (kind_any z hz _).mono ?_
  rintro e w1 ⟨rfl, hb1⟩
  have hB1 := hB0.out.below hb1 hB0.out.lt
  have hR1 := hR0.out.below hb1 hR0.out.lt
  have hL1 : Below w.heap.size w w1 := hL0.out.trans (hb1.mono hL0.out.size)
  clear hB0 hR0 hL0 hb1 hBB
  go_wp2_with fail
  refine (numW w.heap.size z hz 3 12 rfl (by omega) _ hB1).mono ?_
  rintro e w2 ⟨rfl, rfl⟩
  by_cases hk : kindOf z = 4
  rotate_left
  · have q : (kindOf z != 4) = true := by simpa using hk
    have HN : Hid (headRd z = false) := by show _ = _; unfold headRd; simp [hk]
    clear hk
    generalize kindOf z = k at q ⊢
    go_wp2_with (first | (refine wp_storeAt rfl 36 (.tmp 2) (.tmp 24) rfl (w.heap.size + 1) #[.int .u32 0, .int .i64 0] _ rfl rfl hR1 (info_head _ _) rfl (one_head _ _) ?_))
    intro w3 hR3 ho3
    go_wp2_with fail
    exact bodyPost_ret (results_head rfl _ _ (w.heap.size + 1) 0 0 rfl hR3) rfl ⟨by rw [hdS, hdT, HN.out]; rfl, hL1.trans (ho3.below (by omega))⟩
  have HK := Lib.hid hk
  rw [hk]
  clear hk
  by_cases h2 : wd z 3 ≤ 255
  rotate_left
  · have HN : Hid (headRd z = false) := by show _ = _; unfold headRd; simp [h2]
    go_wp2_with (first | (refine wp_storeAt rfl 36 (.tmp 2) (.tmp 24) rfl (w.heap.size + 1) #[.int .u32 0, .int .i64 0] _ rfl rfl hR1 (info_head _ _) rfl (one_head _ _) ?_))
    intro w3 hR3 ho3
    go_wp2_with fail
    exact bodyPost_ret (results_head rfl _ _ (w.heap.size + 1) 0 0 rfl hR3) rfl ⟨by rw [hdS, hdT, HN.out]; rfl, hL1.trans (ho3.below (by omega))⟩
  have hsl := fun W => run_sliceBlkFrom w.heap.size 16 16 rfl (by omega) W
  have hrow : Hid (Row w1 (some ⟨w.heap.size, 16, none⟩) (256 - 16) (fun j => z (16 + j))) := .inr ⟨_, _, rfl, by have := hB1.seg.sub 16 240 (by omega); rwa [Nat.zero_add] at this⟩
  go_wp2_with fail
  refine (zero_any _ _ _ _ _ (by omega) (by exact hrow.out)).mono ?_
  rintro e w3 ⟨rfl, rfl⟩
  clear hsl hrow
  have HZ : Hid (allZ (fun j => z (16 + j)) (256 - 16) = allZ (fun j => wd z (4 + j)) 60) := allZ_wd hz 4 60
  rw [HZ.out]
  by_cases hzz : allZ (fun j => wd z (4 + j)) 60 = true
  rotate_left
  · rw [Bool.not_eq_true] at hzz
    have HN : Hid (headRd z = false) := by show _ = _; unfold headRd; rw [hzz]; simp
    rw [hzz]
    clear hzz
    go_wp2_with (first | (refine wp_storeAt rfl 36 (.tmp 2) (.tmp 24) rfl (w.heap.size + 1) #[.int .u32 0, .int .i64 0] _ rfl rfl hR1 (info_head _ _) rfl (one_head _ _) ?_))
    intro w3 hR3 ho3
    go_wp2_with fail
    exact bodyPost_ret (results_head rfl _ _ (w.heap.size + 1) 0 0 rfl hR3) rfl ⟨by rw [hdS, hdT, HN.out]; rfl, hL1.trans (ho3.below (by omega))⟩
  have HY : Hid (headRd z = true) := by show _ = _; unfold headRd; rw [HK.out, hzz]; simp [h2]
  rw [hzz]
  clear hzz
  go_wp2_with (first | (refine wp_storeAt rfl 36 (.tmp 2) (.tmp 28) rfl (w.heap.size + 1) #[.int .u32 (seqOf z), .int .i64 (wd z 3)] _ rfl rfl hR1 (info_head _ _) rfl (one_head _ _) ?_))
  intro w3 hR3 ho3
  go_wp2_with fail
  exact bodyPost_ret (results_head rfl _ _ (w.heap.size + 1) (seqOf z) (wd z 3) rfl hR3) rfl ⟨by rw [hdS, hdT, HY.out]; rfl, hL1.trans (ho3.below (by omega))⟩
end Go.Proofs.YtnbmmhoofilmfaaDoor
