/- Texts of this claim, merged by a program (a claim may have 60 files): R9c, R9k, R9l, Pk9. -/
import Derived.Test.YtnbmmhoofilmfaaDoorK22
import Derived.Test.YtnbmmhoofilmfaaDoorK12
import Derived.Test.YtnbmmhoofilmfaaDoorK23
import Derived.Test.YtnbmmhoofilmfaaDoorK20
import Derived.Test.YtnbmmhoofilmfaaDoorK21
/- The contract of quernref09.WriteRevoke. -/
namespace Go.Proofs.YtnbmmhoofilmfaaDoor
open Go.RowKit
set_option linter.unusedVariables false

theorem own_form' {W : World} {base n : Nat} {e : TypeId} {size : Nat} {v : Value} {xs : List Value} (h : W.ownsRow base e size v n xs) (hn : 0 < n) : ∃ g cap, v = .slice (some ⟨g, 0, none⟩) n cap := by
  rcases h.2 with ⟨_, h0⟩ | ⟨g', cap', cur, hv, _⟩
  · omega
  · exact ⟨g', cap', hv⟩
theorem own4 (w : World) (k s f : Int) (r : Nat → Int) (base : Nat) (hb : base ≤ w.heap.size) : (w.alloc (.cells #[.int .u32 1280199249, .int .u32 k, .int .u32 s, .int .u32 f] 34)).ownsRow base 34 1 (.slice (some ⟨w.heap.size, 0, none⟩) 4 4) 4 (Ks .u32 4 (jw k s f r)) :=
  ⟨by simp [Ks], .inr ⟨_, 4, _, rfl, hb, heap_alloc_new w _, by omega, by unfold maxLen; omega, rfl, rfl⟩⟩
theorem Ks_append (n k : Nat) (M m : Nat → Int) (h : ∀ i, i < k → m i = M (n + i)) : Ks .u32 n M ++ Ks .u32 k m = Ks .u32 (n + k) M := by
  induction k with
  | zero => simp [Ks]
  | succ k ih =>
    rw [Ks_snoc, ← List.append_assoc, ih (fun i hi => h i (by omega)), h k (by omega), ← Nat.add_assoc, Ks_snoc]
structure RvSt (w : World) (b off n : Nat) (m : Nat → Int) (W : World) : Prop where
  r : Blk W w.heap.size 32 256 (fun _ => 0)
  t : NumSeg W b off n m
  bel : Below w.heap.size w W

set_option maxRecDepth 100000 in
set_option maxHeartbeats 2000000 in
theorem rWriteRevoke_any (s : Int) (a : Option Addr) (n cap : Nat) (m : Nat → Int) (hs : 0 ≤ s ∧ s < 4294967296) (hm : Wds m) (hn : (n : Int) ≤ 9223372036854775807) (w : World) (hT : NumRow w a n m) :
    Calls Tryd.prog 106 #[.int .u32 s, .slice a n cap] w fun e w' => e = .returned (.tuple #[bval (revZ s n m), .int .i64 (errOf (revOk s n m) 2)]) ∧ Below w.heap.size w w' := by
  obtain ⟨hs0, hs1⟩ := hs
  have hal := zero_block
  have hR0 : Hid (Blk (w.alloc (.cells (Ks .u8 256 (fun _ => 0)).toArray 32)) w.heap.size 32 256 (fun _ => 0)) := Blk.new _ _ _ _
  have hL0 : Hid (Below w.heap.size w (w.alloc (.cells (Ks .u8 256 (fun _ => 0)).toArray 32))) := (Below.refl _ _).alloc (Nat.le_refl _) _
  have HT := Lib.hid hT
  have HM := Lib.hid hm
  clear hT hm
  go_enter Tryd.func106, Tryd.ntmps106
  go_wp2_with fail
  refine ((rSeq_any s _).mono (R' := fun e w' => e = .returned (.bool (seqB s)) ∧ Blk w' w.heap.size 32 256 (fun _ => 0) ∧ Below w.heap.size w w') (fun e w' h => ⟨h.1, h.2 ▸ hR0.out, h.2 ▸ hL0.out⟩)).mono ?_
  rintro e W ⟨rfl, hR, hL⟩
  clear hR0 hL0
  by_cases hq : seqB s = true
  rotate_left
  · rw [Bool.not_eq_true] at hq
    have HO : Hid (revOk s n m = false) := by show _ = _; unfold revOk; rw [hq]; rfl
    rw [hq]
    clear hq
    go_wp2_with (first | (refine wp_storeBlk rfl (.tmp 4) (.tmp 20) rfl w.heap.size (fun _ => 0) _ rfl rfl hR ?_))
    intro w2 hR2 ho2
    go_wp2_with fail
    exact bodyPost_ret (results_blk2 rfl _ _ w.heap.size _ rfl hR2) rfl ⟨by rw [revZ, HO.out]; rfl, hL.trans (ho2.below (by omega))⟩
  by_cases h1 : 1 ≤ n
  rotate_left
  · have HO : Hid (revOk s n m = false) := by show _ = _; unfold revOk; simp [h1]
    rw [hq]
    clear hq
    go_wp2_with (first | (refine wp_storeBlk rfl (.tmp 4) (.tmp 20) rfl w.heap.size (fun _ => 0) _ rfl rfl hR ?_))
    intro w2 hR2 ho2
    go_wp2_with fail
    exact bodyPost_ret (results_blk2 rfl _ _ w.heap.size _ rfl hR2) rfl ⟨by rw [revZ, HO.out]; rfl, hL.trans (ho2.below (by omega))⟩
  by_cases h2 : n ≤ 60
  rotate_left
  · have HO : Hid (revOk s n m = false) := by show _ = _; unfold revOk; simp [h2]
    rw [hq]
    clear hq
    go_wp2_with (first | (refine wp_storeBlk rfl (.tmp 4) (.tmp 20) rfl w.heap.size (fun _ => 0) _ rfl rfl hR ?_))
    intro w2 hR2 ho2
    go_wp2_with fail
    exact bodyPost_ret (results_blk2 rfl _ _ w.heap.size _ rfl hR2) rfl ⟨by rw [revZ, HO.out]; rfl, hL.trans (ho2.below (by omega))⟩
  have HQ := Lib.hid hq
  rw [hq]
  clear hq
  obtain ⟨b, off, rfl, hseg⟩ : ∃ b off, a = some ⟨b, off, none⟩ ∧ NumSeg w b off n m := by
    rcases HT.out with h | h
    · omega
    · exact h
  have hblt := hseg.lt h1
  have st0 : RvSt w b off n m W := ⟨hR, hseg.below hL hblt, hL⟩
  clear HT hseg hR hL
  go_wp2_with fail
  go_loopw [6] (fun u wr => ∃ k : Nat, 1 ≤ k ∧ k ≤ n ∧ u = .int .i64 (k : Int) ∧ Hid (riseB m k = true) ∧ RvSt w b off n m wr) (fun u _ => n - (intOf u).toNat)
  case atStart => exact ⟨1, by omega, h1, rfl, rfl, st0⟩
  case round =>
    clear st0
    obtain ⟨k, hk1, hk, rfl, HRS, st⟩ := hrel
    by_cases hlt : k < n
    · have hc0 : ∀ x : InW (RvSt w b off n m), x.W.cell? ⟨b, off + k, none⟩ = some (.int .u32 (m k)) := fun x => x.h.t k hlt
      have hc1 : ∀ x : InW (RvSt w b off n m), x.W.cell? ⟨b, off + (k - 1), none⟩ = some (.int .u32 (m (k - 1))) := fun x => x.h.t (k - 1) (by omega)
      have e1 : IntKind.i64.wrap ((k : Int) - 1) = (k : Int) - 1 := IntWalk.i64_in _ (by omega)
      have e2 : (0 : Int) ≤ (k : Int) - 1 := by omega
      have e3 : ((k : Int) - 1).toNat = k - 1 := by omega
      have e4 : (k : Int) - 1 < (n : Int) := by omega
      have l0 : (0 : Int) ≤ (k : Int) := by omega
      have l1 : (k : Int) < (n : Int) := by omega
      by_cases hri : m (k - 1) < m k
      · have HRS1 : Hid (riseB m (k + 1) = true) := by show _ = _; rw [riseB_succ, HRS.out, decide_eq_true hri]; simp
        have d1 : decide (m k ≤ m (k - 1)) = false := by simp; omega
        go_wp2_with fail
        refine wp_region_S (RvSt w b off n m) (by kernel_rfl) (by kernel_rfl) ⟨st.r, st.t, st.bel.drew⟩ ?_
        clear st
        intro hne
        repeat (first | go_big_quiet_skip | (go_big_quiet_want; go_big_quiet_op; go_big_quiet_on))
        refine wpQuiet_nil ?_
        intro w4 h4
        have st := h4.out
        clear h4 hne hc0 hc1 e1 e2 e3 e4
        go_wp2_with fail
        go_roundw
        case rel => first | exact ⟨k + 1, by omega, by omega, by go_num, HRS1, st⟩ | ((repeat apply Exists.intro); exact ⟨⟨k + 1, by omega, by omega, by go_num, HRS1, st⟩, rfl⟩)
        case measure => simp [intOf]; omega
      · have HO : Hid (revOk s n m = false) := by show _ = _; unfold revOk; rw [riseB_no (by omega) hlt hri]; simp
        have d1 : decide (m k ≤ m (k - 1)) = true := by simp; omega
        go_wp2_with fail
        refine wp_region_S (RvSt w b off n m) (by kernel_rfl) (by kernel_rfl) ⟨st.r, st.t, st.bel.drew⟩ ?_
        clear st
        intro hne
        repeat (first | go_big_quiet_skip | (go_big_quiet_want; go_big_quiet_op; go_big_quiet_on))
        refine wpQuiet_nil ?_
        intro w4 h4
        have st := h4.out
        have hR := st.r
        clear h4 hne hc0 hc1 e1 e2 e3 e4
        go_wp2_with (first | (refine wp_storeBlk rfl (.tmp 4) (.tmp 37) rfl w.heap.size (fun _ => 0) _ rfl rfl hR ?_))
        intro w5 hR5 ho5
        go_wp2_with fail
        exact bodyPost_ret (results_blk2 rfl _ _ w.heap.size _ rfl hR5) rfl ⟨by rw [revZ, HO.out]; rfl, st.bel.trans (ho5.below (by omega))⟩
    · obtain rfl : k = n := by omega
      have HO : Hid (revOk s k m = true) := by show _ = _; unfold revOk; rw [HQ.out, HRS.out]; simp [h1, h2]
      have hbs := run_nums4
      obtain ⟨i0, hi, hz0, hz1, hz2⟩ := info_parts info_u32
      have hR1 := st.r.lt
      have hown := own4 wr 3 s k (numR m k) (w.heap.size + 1) (by omega)
      have hseg1 : NumSeg (wr.alloc (.cells #[.int .u32 1280199249, .int .u32 3, .int .u32 s, .int .u32 (k : Int)] 34)) b off k m := st.t.below ((Below.refl wr.heap.size wr).alloc (Nat.le_refl _) _) (st.t.lt (by omega))
      have hnews : ∀ (j : Nat) (u : Value), (Ks .u32 k m)[j]? = some u → (wr.alloc (.cells #[.int .u32 1280199249, .int .u32 3, .int .u32 s, .int .u32 (k : Int)] 34)).cell? ((⟨b, off, none⟩ : Addr).add j) = some u := fun j u hj => by
        have hjk : j < k := by have := (List.getElem?_eq_some_iff.1 hj).1; rwa [Ks_length] at this
        rw [Ks_get _ _ _ _ hjk] at hj
        rw [addr_add, ← hj]; exact hseg1 j hjk
      have hone : ∀ u ∈ Ks .u32 k m, u.oneCell' = true := fun u hu => by obtain ⟨i, _, rfl⟩ := List.mem_map.1 hu; rfl
      have HNEWS := Lib.hid hnews
      have HONE := Lib.hid hone
      clear hnews hone hseg1
      go_wp2_with (first | (refine wpList_append_own _ rfl (.tmp 42) (.tmp 43) 149 rfl (w.heap.size + 1) 34 i0 (.int .u32 0) 1 4 Tryd.underlying149 hi hz0 hz1 hz2 rfl (by decide) _ 4 _ rfl hown ⟨b, off, none⟩ k cap (Ks .u32 k m) rfl (by rw [Ks_length, Nat.mul_one]) HNEWS.out HONE.out (by unfold maxLen; omega) (by omega) (by simp; omega) ?rest))
      intro v' w6 hown6 hg6 _
      rw [Ks_append 4 k (jw 3 s k (numR m k)) m (fun i hi => by unfold jw numR; rw [if_neg (by omega), if_neg (by omega), if_neg (by omega), if_neg (by omega), if_pos (by omega)]; congr 1; omega)] at hown6
      obtain ⟨g', cap', hv'⟩ := own_form' hown6 (by omega)
      subst hv'
      have hR6 : Blk w6 w.heap.size 32 256 (fun _ => 0) := (hg6.block _ (st.r.alloc _).lt (by simp [Value.ownBlock]; omega)).trans (st.r.alloc _)
      have hL6 : Below w.heap.size w w6 := (st.bel.alloc st.bel.size _).grown hg6 (st.bel.alloc st.bel.size _).size (fun j e => by simp [Value.ownBlock] at e; omega)
      have hrow := own_nums hown6
      have HROW := Lib.hid hrow
      clear hown hown6 hg6 hrow HNEWS HONE hbs st
      go_wp2_with fail
      refine (rblock_any _ (4 + k) cap' (jw 3 s k (numR m k)) (jw_wds (by decide) (by omega) (by omega) (fun j => by unfold numR; split; exact HM.out _; decide)) (by omega) _ HROW.out).mono ?_
      rintro e w7 ⟨rfl, hb7⟩
      rw [wz_numR (l := jw 3 s k (numR m k)) (fun j _ => by
        split
        · rfl
        · unfold jw numR; rw [if_neg (by omega), if_neg (by omega), if_neg (by omega), if_neg (by omega), if_neg (by omega)])]
      have hR7 := hR6.below hb7 hR6.lt
      have hL7 : Below w.heap.size w w7 := hL6.trans (hb7.mono hL6.size)
      clear hR6 hL6 hb7 HROW
      go_wp2_with (first | (refine wp_storeBlk rfl (.tmp 4) (.tmp 45) rfl w.heap.size (wz (jw 3 s k (numR m k))) _ rfl rfl hR7 ?_))
      intro w8 hR8 ho8
      go_wp2_with fail
      exact bodyPost_ret (results_blk2 rfl _ _ w.heap.size _ rfl hR8) rfl ⟨by rw [revZ, HO.out]; rfl, hL7.trans (ho8.below (by omega))⟩
end Go.Proofs.YtnbmmhoofilmfaaDoor

/- The contract of quernref09.ReadRevoke. -/
namespace Go.Proofs.YtnbmmhoofilmfaaDoor
open Go.RowKit
set_option linter.unusedVariables false

/-- b[lo:] of a block, lo of four bytes -/
theorem run_sliceBlkFromU (g lo : Nat) (L : Int) (hL : L = (lo : Int)) (h3 : lo < 256) (W : World) :
    (Instr.sliceAt 32 (.pointer (some ⟨g, 0, none⟩)) (some (.int .u32 L)) none none).run Tryd.prog W = .ok (.slice (some ⟨g, lo, none⟩) (256 - lo) (256 - lo)) W := by
  subst hL
  have hal : Tryd.prog.arrayLen 32 = 256 := by kernel_rfl
  have hsz : ∀ W, (Go.sizeOf (Tryd.prog.elem 32)).run Tryd.prog W = .ok 1 W := fun W => by kernel_rfl
  rw [run_sliceAt_array_l W 32 _ (by kernel_rfl) .u32 (lo : Int) (by omega) (by rw [hal]; omega), hsz, hal]
  simp only [Result.andThen, slicedAt, Int.toNat_natCast, Nat.mul_one]
  rw [if_neg (by omega), addr_add, Nat.zero_add]
theorem run_sliceBlkEndU (g : Nat) (W : World) : (Instr.sliceAt 32 (.pointer (some ⟨g, 0, none⟩)) (some (.int .u32 256)) none none).run Tryd.prog W = .ok (.slice (some ⟨g, 0, none⟩) 0 0) W := by kernel_rfl
theorem own_below' {W W' : World} {base k : Nat} {v : Value} {e : TypeId} {size : Nat} {xs : List Value} (h : W.ownsRow base e size v k xs) (hb : Below W.heap.size W W') : W'.ownsRow base e size v k xs := by
  refine ⟨h.1, ?_⟩
  rcases h.2 with h' | ⟨g', cap', cur, hv, hbb, hg, hr⟩
  · exact .inl h'
  · exact .inr ⟨g', cap', cur, hv, hbb, (hb.block _ (Array.getElem?_eq_some_iff.1 hg).1).trans hg, hr⟩
theorem own_mono' {W : World} {base base' k : Nat} {v : Value} {e : TypeId} {size : Nat} {xs : List Value} (h : W.ownsRow base e size v k xs) (hb : base' ≤ base) : W.ownsRow base' e size v k xs := by
  refine ⟨h.1, ?_⟩
  rcases h.2 with h' | ⟨g', cap', cur, hv, hbb, hr⟩
  · exact .inl h'
  · exact .inr ⟨g', cap', cur, hv, by omega, hr⟩
theorem numNews (w : World) (x : Int) : ∀ (j : Nat) (u : Value), ([.int .u32 x] : List Value)[j]? = some u → (w.alloc (.cells #[.int .u32 x] 34)).cell? ((⟨w.heap.size, 0, none⟩ : Addr).add j) = some u := by
  intro j u hj
  rw [addr_add]
  rcases j with _ | j
  · cases hj; exact cell_of_heap (heap_alloc_new w _) rfl
  · cases hj
theorem numOne (x : Int) : ∀ u ∈ ([.int .u32 x] : List Value), u.oneCell' = true := by
  intro u hu
  simp only [List.mem_cons, List.not_mem_nil, or_false] at hu
  rw [hu]; rfl
theorem own_blk {W : World} {base k : Nat} {v : Value} {e : TypeId} {size : Nat} {xs : List Value} (h : W.ownsRow base e size v k xs) : v.ownBlock = none ∨ ∃ x, v.ownBlock = some x ∧ base ≤ x := by
  rcases h.2 with ⟨rfl, _⟩ | ⟨g', cap', cur, rfl, hbb, _⟩
  · exact .inl rfl
  · exact .inr ⟨g', rfl, hbb⟩
structure RrSt (w : World) (z : Nat → Int) (v : Value) (k : Nat) (W : World) : Prop where
  b : Blk W w.heap.size 32 256 z
  own : W.ownsRow (w.heap.size + 1) 34 1 v k (Ks .u32 k (revM z))
  bel : Below w.heap.size w W
theorem RrSt.below {w W W' : World} {z : Nat → Int} {v : Value} {k : Nat} (h : RrSt w z v k W) (hb : Below W.heap.size W W') : RrSt w z v k W' := ⟨h.b.below hb h.b.lt, own_below' h.own hb, h.bel.trans (hb.mono h.bel.size)⟩

end Go.Proofs.YtnbmmhoofilmfaaDoor

/- The contract of quernref09.ReadDesc. -/
namespace Go.Proofs.YtnbmmhoofilmfaaDoor
open Go.RowKit
set_option linter.unusedVariables false

structure RsSt (w : World) (z : Nat → Int) (v : Value) (k : Nat) (W : World) : Prop where
  b : Blk W w.heap.size 32 256 z
  own : W.ownsRow (w.heap.size + 1) 169 2 v k (Tc (descT z) (jdE z) k)
  bel : Below w.heap.size w W
theorem RsSt.below {w W W' : World} {z : Nat → Int} {v : Value} {k : Nat} (h : RsSt w z v k W) (hb : Below W.heap.size W W') : RsSt w z v k W' := ⟨h.b.below hb h.b.lt, own_below' h.own hb, h.bel.trans (hb.mono h.bel.size)⟩
theorem own_only {W W' : World} {base k p : Nat} {v : Value} {e : TypeId} {size : Nat} {xs : List Value} (h : W.ownsRow base e size v k xs) (ho : Only p W W') (hp : v.ownBlock ≠ some p) : W'.ownsRow base e size v k xs := by
  refine ⟨h.1, ?_⟩
  rcases h.2 with h' | ⟨g', cap', cur, hv, hbb, hg, hr⟩
  · exact .inl h'
  · exact .inr ⟨g', cap', cur, hv, hbb, (ho.block g' (fun e => hp (by rw [hv, e]; rfl))).trans hg, hr⟩
theorem own_fresh {W : World} {base k : Nat} {v : Value} {e : TypeId} {size : Nat} {xs : List Value} (h : W.ownsRow base e size v k xs) {p : Nat} (hp : W.heap.size ≤ p) : v.ownBlock ≠ some p := by
  rcases h.2 with ⟨rfl, _⟩ | ⟨g', cap', cur, rfl, hbb, hg, _⟩
  · intro h; cases h
  · intro h
    have : g' = p := by simpa [Value.ownBlock] using h
    have := (Array.getElem?_eq_some_iff.1 hg).1
    omega
structure RsN (w : World) (z : Nat → Int) (v : Value) (k N : Nat) (W : World) : Prop extends RsSt w z v k W where
  sz : N ≤ W.heap.size
theorem RsN.below {w W W' : World} {z : Nat → Int} {v : Value} {k N : Nat} (h : RsN w z v k N W) (hb : Below W.heap.size W W') : RsN w z v k N W' := ⟨h.toRsSt.below hb, by have := h.sz; have := hb.size; omega⟩
structure RsV (w : World) (z : Nat → Int) (v : Value) (k V : Nat) (W : World) : Prop extends RsSt w z v k W where
  v : At W V 169 #[.int .u32 (descT z k), .bool (jdE z k)]
theorem RsV.below {w W W' : World} {z : Nat → Int} {v : Value} {k V : Nat} (h : RsV w z v k V W) (hb : Below W.heap.size W W') : RsV w z v k V W' := ⟨h.toRsSt.below hb, h.v.below hb h.v.lt⟩

end Go.Proofs.YtnbmmhoofilmfaaDoor

/- What pack.parse tells, plainly; its memory. -/
namespace Go.Proofs.YtnbmmhoofilmfaaDoor
open Go.RowKit
set_option linter.unusedVariables false

/-- k copies more: from block u on, by the tags -/
def addC (t : Tr) (L : Nat → Nat → Int) (u k : Nat) (tb : Nat → Int) (te : Nat → Bool) : Tr :=
  ⟨t.s, t.n + k, fun i => if i < t.n then t.cb i else if i < t.n + k then tb (i - t.n) else 0,
    fun i => if i < t.n then t.cd i else if i < t.n + k then (if te (i - t.n) = true then unescZ (L (u + (i - t.n))) else L (u + (i - t.n))) else (fun _ => 0), t.m, t.rv⟩
/-- k revoked blocks more -/
def addR (t : Tr) (k : Nat) (m : Nat → Int) : Tr := ⟨t.s, t.n, t.cb, t.cd, t.m + k, fun i => if i < t.m then t.rv i else if i < t.m + k then m (i - t.m) else 0⟩
def tr0 (s : Int) : Tr := ⟨s, 0, fun _ => 0, fun _ _ => 0, 0, fun _ => 0⟩
/-- blocks read up to the first commit block -/
def prs (L : Nat → Nat → Int) (N : Nat) (s : Int) : Nat → Nat → Tr → Option (Tr × Nat)
  | 0, _, _ => none
  | f + 1, u, t =>
    if u < N then
      if seqOf (L u) = s then
        if kindOf (L u) = 1 then
          if descRd (L u) = true ∧ rowsN (L u) ≤ N - (u + 1) then prs L N s f (u + 1 + rowsN (L u)) (addC t L (u + 1) (rowsN (L u)) (descT (L u)) (jdE (L u))) else none
        else if kindOf (L u) = 3 then
          if revRd (L u) = true then prs L N s f (u + 1) (addR t (rowsN (L u)) (revM (L u))) else none
        else if kindOf (L u) = 2 then some (t, u + 1) else none
      else none
    else none
theorem prs_fuel (L : Nat → Nat → Int) (N : Nat) (s : Int) : ∀ (f g u : Nat) (t : Tr), N - u ≤ f → N - u ≤ g → prs L N s f u t = prs L N s g u t
  | 0, 0, _, _, _, _ => rfl
  | 0, g + 1, u, t, h, _ => by unfold prs; rw [if_neg (by omega)]
  | f + 1, 0, u, t, _, h => by unfold prs; rw [if_neg (by omega)]
  | f + 1, g + 1, u, t, h1, h2 => by
    rw [prs, prs]
    by_cases hu : u < N
    · rw [if_pos hu, if_pos hu, prs_fuel L N s f g (u + 1 + rowsN (L u)) _ (by omega) (by omega), prs_fuel L N s f g (u + 1) _ (by omega) (by omega)]
    · rw [if_neg hu, if_neg hu]
/-- one step -/
theorem prs_step (L : Nat → Nat → Int) (N : Nat) (s : Int) (u : Nat) (t : Tr) (hu : u < N) : prs L N s (N - u) u t =
    if seqOf (L u) = s then
      if kindOf (L u) = 1 then
        if descRd (L u) = true ∧ rowsN (L u) ≤ N - (u + 1) then prs L N s (N - (u + 1 + rowsN (L u))) (u + 1 + rowsN (L u)) (addC t L (u + 1) (rowsN (L u)) (descT (L u)) (jdE (L u))) else none
      else if kindOf (L u) = 3 then
        if revRd (L u) = true then prs L N s (N - (u + 1)) (u + 1) (addR t (rowsN (L u)) (revM (L u))) else none
      else if kindOf (L u) = 2 then some (t, u + 1) else none
    else none := by
  obtain ⟨f, hf⟩ : ∃ f, N - u = f + 1 := ⟨N - u - 1, by omega⟩
  rw [hf, prs, if_pos hu, prs_fuel L N s f (N - (u + 1 + rowsN (L u))) _ _ (by omega) (by omega), prs_fuel L N s f (N - (u + 1)) _ _ (by omega) (by omega)]
theorem prs_end (L : Nat → Nat → Int) (N : Nat) (s : Int) (u : Nat) (t : Tr) (hu : ¬ u < N) : prs L N s (N - u) u t = none := by
  rw [show N - u = 0 by omega]; rfl
theorem addC_zero_n (t : Tr) (L : Nat → Nat → Int) (u : Nat) (tb : Nat → Int) (te : Nat → Bool) : (addC t L u 0 tb te).n = t.n := rfl
/-- one copy more -/
theorem addC_at (t : Tr) (L : Nat → Nat → Int) (u j : Nat) (tb : Nat → Int) (te : Nat → Bool) :
    (addC t L u (j + 1) tb te).cb (t.n + j) = tb j ∧ (addC t L u (j + 1) tb te).cd (t.n + j) = (if te j then unescZ (L (u + j)) else L (u + j)) := by
  unfold addC
  refine ⟨?_, ?_⟩
  · show (if t.n + j < t.n then _ else if t.n + j < t.n + (j + 1) then tb (t.n + j - t.n) else 0) = _
    rw [if_neg (by omega), if_pos (by omega), Nat.add_sub_cancel_left]
  · show (if t.n + j < t.n then _ else if t.n + j < t.n + (j + 1) then _ else _) = _
    rw [if_neg (by omega), if_pos (by omega), Nat.add_sub_cancel_left]
theorem addC_low (t : Tr) (L : Nat → Nat → Int) (u j : Nat) (tb : Nat → Int) (te : Nat → Bool) {i : Nat} (hi : i < t.n + j) :
    (addC t L u (j + 1) tb te).cb i = (addC t L u j tb te).cb i ∧ (addC t L u (j + 1) tb te).cd i = (addC t L u j tb te).cd i := by
  unfold addC
  refine ⟨?_, ?_⟩
  · show (if i < t.n then _ else if i < t.n + (j + 1) then _ else 0) = (if i < t.n then _ else if i < t.n + j then _ else 0)
    by_cases h : i < t.n
    · rw [if_pos h, if_pos h]
    · rw [if_neg h, if_neg h, if_pos (by omega), if_pos hi]
  · show (if i < t.n then _ else if i < t.n + (j + 1) then _ else _) = (if i < t.n then _ else if i < t.n + j then _ else _)
    by_cases h : i < t.n
    · rw [if_pos h, if_pos h]
    · rw [if_neg h, if_neg h, if_pos (by omega), if_pos hi]
theorem addR_at (t : Tr) (j : Nat) (m : Nat → Int) : (addR t (j + 1) m).rv (t.m + j) = m j := by
  show (if t.m + j < t.m then _ else if t.m + j < t.m + (j + 1) then m (t.m + j - t.m) else 0) = _
  rw [if_neg (by omega), if_pos (by omega), Nat.add_sub_cancel_left]
theorem addR_low (t : Tr) (j : Nat) (m : Nat → Int) {i : Nat} (hi : i < t.m + j) : (addR t (j + 1) m).rv i = (addR t j m).rv i := by
  show (if i < t.m then _ else if i < t.m + (j + 1) then _ else 0) = (if i < t.m then _ else if i < t.m + j then _ else 0)
  by_cases h : i < t.m
  · rw [if_pos h, if_pos h]
  · rw [if_neg h, if_neg h, if_pos (by omega), if_pos hi]

/-- what the parser keeps in memory: the transaction's box and rows, the blocks -/
structure PrS (w : World) (la : Option Addr) (N : Nat) (L : Nat → Nat → Int) (n m : Nat) (s : Int) (cb : Nat → Int) (cd : Nat → Nat → Int) (rv : Nat → Int) (ca : Option Addr) (cc : Nat) (ra : Option Addr) (rc : Nat) (W : World) : Prop where
  b : At W w.heap.size 51 (tcells s ca n cc ra m rc)
  c : RMine W (w.heap.size + 1) 101 257 (.slice ca n cc) n (cpF cb cd)
  r : RMine W (w.heap.size + 1) 3 1 (.slice ra m rc) m (inF rv)
  l : RRow W la 256 N (bkF L)
  bel : Below w.heap.size w W
section
variable {w : World} {la : Option Addr} {N : Nat} {L : Nat → Nat → Int} {n m : Nat} {s : Int} {cb : Nat → Int} {cd : Nat → Nat → Int} {rv : Nat → Int} {ca : Option Addr} {cc : Nat} {ra : Option Addr} {rc : Nat} {W W' : World}
theorem PrS.below (h : PrS w la N L n m s cb cd rv ca cc ra rc W) (hb : Below W.heap.size W W') : PrS w la N L n m s cb cd rv ca cc ra rc W' :=
  ⟨h.b.below hb h.b.lt, h.c.below hb, h.r.below hb, h.l.below (by intro e; have := bkF_len L 0; rw [e] at this; cases this) hb, h.bel.trans (hb.mono h.bel.size)⟩
/-- a new block is turned -/
theorem PrS.fresh (h : PrS w la N L n m s cb cd rv ca cc ra rc W) {W0 : World} {p : Nat} (hb : Below W0.heap.size W0 W) (h0 : PrS w la N L n m s cb cd rv ca cc ra rc W0) (ho : Only p W W') (hp : W0.heap.size ≤ p) : PrS w la N L n m s cb cd rv ca cc ra rc W' :=
  h0.below (hb.trans (ho.below hp))
end
theorem own_ne {W : World} {base base' k k' size size' g : Nat} {e e' : TypeId} {v v' : Value} {xs xs' : List Value} (h : W.ownsRow base e size v k xs) (h' : W.ownsRow base' e' size' v' k' xs') (he : e ≠ e') (hg : v.ownBlock = some g) : v'.ownBlock ≠ some g := by
  intro hg'
  rcases h.2 with ⟨rfl, _⟩ | ⟨q, cap, cur, rfl, _, hh, _⟩
  · cases hg
  rcases h'.2 with ⟨rfl, _⟩ | ⟨q', cap', cur', rfl, _, hh', _⟩
  · cases hg'
  simp [Value.ownBlock] at hg hg'
  subst hg hg'
  rw [hh] at hh'
  injection hh' with hh'
  injection hh' with _ h2 _
  exact he h2
theorem AtGrown {W W1 : World} {g : Nat} {T : TypeId} {cs : Array Value} {row : Option Nat} (h : At W g T cs) (hg : W.grownBy W1 row) (hne : row ≠ some g) : At W1 g T cs := (hg.block _ h.lt (fun e => hne e.symm)).trans h
theorem RRowGrown {W W1 : World} {a : Option Addr} {m n : Nat} {f : Nat → List Value} {row : Option Nat} (hr : RRow W a m n f) (hg : W.grownBy W1 row) (hb : ∀ b off, a = some ⟨b, off, none⟩ → b < W.heap.size ∧ row ≠ some b) : RRow W1 a m n f := by
  rcases hr with hr | ⟨b, off, rfl, hr⟩
  · exact .inl hr
  · obtain ⟨h1, h2⟩ := hb b off rfl
    exact .inr ⟨b, off, rfl, fun i hi j v hj => (World.cell?_of_block (w := W) (hg.block b h1 (fun e => h2 e.symm))).trans (hr i hi j v hj)⟩
theorem At.setF {W : World} {g : Nat} {T : TypeId} {cs : Array Value} (h : At W g T cs) (i : Nat) (v : Value) : At (W.setCell ⟨g, i, none⟩ v) g T (cs.setIfInBounds i v) := by
  obtain ⟨hlt, hk⟩ := Array.getElem?_eq_some_iff.1 h
  show (W.heap.modify g _)[g]? = _
  rw [Array.getElem?_eq_getElem (by rw [Array.size_modify]; exact hlt), Array.getElem_modify_self, hk]
  rfl
/-- a copy is appended and the box says so -/
theorem PrS.addc {w : World} {la : Option Addr} {N : Nat} {L : Nat → Nat → Int} {n m : Nat} {s : Int} {cb cb' : Nat → Int} {cd cd' : Nat → Nat → Int} {rv : Nat → Int} {ca ca' : Option Addr} {cc cc' : Nat} {ra : Option Addr} {rc : Nat} {W W1 : World}
    (h : PrS w la N L n m s cb cd rv ca cc ra rc W) (hla : ∀ b off, la = some ⟨b, off, none⟩ → b < w.heap.size) (hg : W.grownBy W1 (Value.slice ca n cc).ownBlock) {x : Int} {z : Nat → Int}
    (ho : W1.ownsRow (w.heap.size + 1) 101 257 (.slice ca' (n + 1) cc') (n + 1) (Cs (cpF cb cd) n ++ cpc x z)) (e1 : ∀ i, i < n → cb' i = cb i ∧ cd' i = cd i) (e2 : cb' n = x ∧ cd' n = z) :
    PrS w la N L (n + 1) m s cb' cd' rv ca' cc' ra rc (W1.setCell ⟨w.heap.size, 1, none⟩ (.slice ca' (n + 1) cc')) := by
  have hq : ∀ q, (Value.slice ca n cc).ownBlock = some q → w.heap.size + 1 ≤ q := fun q hq => (World.ownsRow.lt h.c q hq).1
  have hs := Only.setCell W1 ⟨w.heap.size, 1, none⟩ (.slice ca' (n + 1) cc')
  have hc : RMine W1 (w.heap.size + 1) 101 257 (.slice ca' (n + 1) cc') (n + 1) (cpF cb' cd') := by
    unfold RMine
    rw [Cs_succ, Cs_congr (f := cpF cb' cd') (g := cpF cb cd) (n := n) (fun i hi => by unfold cpF; rw [(e1 i hi).1, (e1 i hi).2])]
    rw [show cpF cb' cd' n = cpc x z by unfold cpF; rw [e2.1, e2.2]]
    exact ho
  have hr : RMine W1 (w.heap.size + 1) 3 1 (.slice ra m rc) m (inF rv) := World.ownsRow.kept h.r hg (by
    cases e : (Value.slice ra m rc).ownBlock with
    | none => exact .inl rfl
    | some g => exact .inr (fun e2 => own_ne h.c h.r (by decide) e2.symm e))
  refine ⟨?_, own_only hc hs (fun e => ?_), own_only hr hs (fun e => ?_), ?_, ?_⟩
  · exact (AtGrown h.b hg (fun e => by have := hq _ e; omega)).setF 1 _
  · have := (World.ownsRow.lt hc _ e).1; change w.heap.size + 1 ≤ w.heap.size at this; omega
  · have := (World.ownsRow.lt hr _ e).1; change w.heap.size + 1 ≤ w.heap.size at this; omega
  · refine (RRowGrown h.l hg (fun b off e => ⟨by have := hla b off e; have := h.bel.size; omega, fun e2 => by have := hq _ e2; have := hla b off e; omega⟩)).only hs (fun b off e => by have := hla b off e; show b ≠ w.heap.size; omega)
  · exact (h.bel.grown hg h.bel.size (fun q e => by have := hq q e; omega)).trans (hs.below (Nat.le_refl _))
/-- a revoked block is appended and the box says so -/
theorem PrS.addr {w : World} {la : Option Addr} {N : Nat} {L : Nat → Nat → Int} {n m : Nat} {s : Int} {cb : Nat → Int} {cd : Nat → Nat → Int} {rv rv' : Nat → Int} {ca : Option Addr} {cc : Nat} {ra ra' : Option Addr} {rc rc' : Nat} {W W1 : World}
    (h : PrS w la N L n m s cb cd rv ca cc ra rc W) (hla : ∀ b off, la = some ⟨b, off, none⟩ → b < w.heap.size) (hg : W.grownBy W1 (Value.slice ra m rc).ownBlock) {x : Int}
    (ho : W1.ownsRow (w.heap.size + 1) 3 1 (.slice ra' (m + 1) rc') (m + 1) (Cs (inF rv) m ++ [.int .i64 x])) (e1 : ∀ i, i < m → rv' i = rv i) (e2 : rv' m = x) :
    PrS w la N L n (m + 1) s cb cd rv' ca cc ra' rc' (W1.setCell ⟨w.heap.size, 2, none⟩ (.slice ra' (m + 1) rc')) := by
  have hq : ∀ q, (Value.slice ra m rc).ownBlock = some q → w.heap.size + 1 ≤ q := fun q hq => (World.ownsRow.lt h.r q hq).1
  have hs := Only.setCell W1 ⟨w.heap.size, 2, none⟩ (.slice ra' (m + 1) rc')
  have hr : RMine W1 (w.heap.size + 1) 3 1 (.slice ra' (m + 1) rc') (m + 1) (inF rv') := by
    unfold RMine
    rw [Cs_succ, Cs_congr (f := inF rv') (g := inF rv) (n := m) (fun i hi => by unfold inF; rw [e1 i hi])]
    rw [show inF rv' m = [.int .i64 x] by unfold inF; rw [e2]]
    exact ho
  have hc : RMine W1 (w.heap.size + 1) 101 257 (.slice ca n cc) n (cpF cb cd) := World.ownsRow.kept h.c hg (by
    cases e : (Value.slice ca n cc).ownBlock with
    | none => exact .inl rfl
    | some g => exact .inr (fun e2 => own_ne h.r h.c (by decide) e2.symm e))
  refine ⟨?_, own_only hc hs (fun e => ?_), own_only hr hs (fun e => ?_), ?_, ?_⟩
  · exact (AtGrown h.b hg (fun e => by have := hq _ e; omega)).setF 2 _
  · have := (World.ownsRow.lt hc _ e).1; change w.heap.size + 1 ≤ w.heap.size at this; omega
  · have := (World.ownsRow.lt hr _ e).1; change w.heap.size + 1 ≤ w.heap.size at this; omega
  · refine (RRowGrown h.l hg (fun b off e => ⟨by have := hla b off e; have := h.bel.size; omega, fun e2 => by have := hq _ e2; have := hla b off e; omega⟩)).only hs (fun b off e => by have := hla b off e; show b ≠ w.heap.size; omega)
  · exact (h.bel.grown hg h.bel.size (fun q e => by have := hq q e; omega)).trans (hs.below (Nat.le_refl _))
theorem zero_trans (W : World) : (zeroValue 51).run Tryd.prog W = .ok (.agg (tcells 0 none 0 0 none 0 0)) W := by kernel_rfl
theorem info_trans (s : Int) (ca : Option Addr) (n cc : Nat) (ra : Option Addr) (m rc : Nat) : (Tryd.prog.info? 51).map (·.size) = some (tcells s ca n cc ra m rc).size := by kernel_rfl
theorem build_copy (b : Int) (z : Nat → Int) (w : World) : (Instr.build 101 #[(0, .int .i64 b), (1, bval z)]).run Tryd.prog w = .ok (.agg (cpc b z).toArray) w := by kernel_rfl
theorem run_copy1 (b : Int) (z : Nat → Int) (W : World) : (Instr.buildSlice 49 1 #[(0, .agg (cpc b z).toArray)]).run Tryd.prog W = .ok (.slice (some ⟨W.heap.size, 0, none⟩) 1 1) (W.alloc (.cells (cpc b z).toArray 101)) := by kernel_rfl
theorem run_int1 (b : Int) (W : World) : (Instr.buildSlice 45 1 #[(0, .int .i64 b)]).run Tryd.prog W = .ok (.slice (some ⟨W.heap.size, 0, none⟩) 1 1) (W.alloc (.cells #[.int .i64 b] 3)) := by kernel_rfl
theorem info_copy3 : (Tryd.prog.info? 101).map (fun i => (i.zero, i.size, i.bytes)) = some (some (.agg (cpc 0 fun _ => 0).toArray), 257, 264) := by kernel_rfl
theorem info_int3 : (Tryd.prog.info? 3).map (fun i => (i.zero, i.size, i.bytes)) = some (some (.int .i64 0), 1, 8) := by kernel_rfl
theorem info_copyP : ∃ i, Tryd.prog.info? 101 = some i ∧ i.zero = some (.agg (cpc 0 fun _ => 0).toArray) ∧ i.size = 257 ∧ i.bytes = 264 := by
  obtain ⟨i, hi, hz⟩ := Option.map_eq_some_iff.1 info_copy3
  simp only [Prod.mk.injEq] at hz
  exact ⟨i, hi, hz.1, hz.2.1, hz.2.2⟩
theorem info_intP : ∃ i, Tryd.prog.info? 3 = some i ∧ i.zero = some (.int .i64 0) ∧ i.size = 1 ∧ i.bytes = 8 := by
  obtain ⟨i, hi, hz⟩ := Option.map_eq_some_iff.1 info_int3
  simp only [Prod.mk.injEq] at hz
  exact ⟨i, hi, hz.1, hz.2.1, hz.2.2⟩
/-- a struct of two parts -/
theorem wpList_build2 {P : Program} {w : World} {ops : Array Oper} {rest : List Oper} {o : Oper} {a : Act} {Q : Exit → Act → World → Prop} (hgd : o.guard = none) (t : TypeId) (i j : Nat) (x y : Operand) (ho : o.op = .build t #[(i, x), (j, y)])
    (u v : Value) (hx : a.eval x = u) (hy : a.eval y = v) (z : Value) (hr : ∀ w, (Instr.build t #[(i, u), (j, v)]).run P w = .ok z w) (h : wpList P ops Q rest (a.put o.dst z) w) : wpList P ops Q (o :: rest) a w :=
  wpList_plain hgd fun _ hK => by
    unfold Oper.wp execOp
    subst hx hy
    simp only [ho, Sem.run_bind, List.map_toArray, List.map_cons, List.map_nil, hr, Result.andThen_ok, Sem.run_pure]
    exact hK _ _ h
theorem Cs_snoc' (f g : Nat → List Value) (n : Nat) (h : ∀ i, i < n → f i = g i) : Cs g n ++ f n = Cs f (n + 1) := by rw [Cs_succ, Cs_congr h]
end Go.Proofs.YtnbmmhoofilmfaaDoor
