/- Texts of this claim, merged by a program (a claim may have 60 files): Sd1. -/
import Derived.Test.YtnbmmhoofilmfaaDoorK35
import Derived.Test.YtnbmmhoofilmfaaDoorK32
import Derived.Test.YtnbmmhoofilmfaaDoorK22
import Derived.Test.YtnbmmhoofilmfaaDoorK28
/- quernlaw18.awake. -/
namespace Go.Proofs.YtnbmmhoofilmfaaDoor
open Go.RowKit
set_option linter.unusedVariables false

theorem zero_geo18 (W : World) : (zeroValue 23).run Tryd.prog W = .ok (gval 0 0 0 0) W := by kernel_rfl
theorem info_block18 : (Tryd.prog.info? 32).map (fun i => (i.zero, i.size, i.bytes)) = some (some (bval fun _ => 0), 256, 256) := by kernel_rfl
theorem run_mkimg18 (n : Nat) (hn : n ≤ 2048) (W : World) : (Instr.makeSlice 24 (.int .i64 (n : Int)) (.int .i64 (n : Int))).run Tryd.prog W = .ok (.slice (some ⟨W.heap.size, 0, none⟩) n n) (W.alloc (.cells (madeCells (bval fun _ => 0).cells (n * 256)) 32)) :=
  run_mkrow (P := Tryd.prog) 24 32 (bval fun _ => 0) 256 256 Tryd.underlying24 info_block18 .i64 .i64 n (by omega) (by omega) W
theorem img_made18 (w : World) (n : Nat) : RArr (w.alloc (.cells (madeCells (bval fun _ => 0).cells (n * 256)) 32)) w.heap.size 32 256 n (fun _ => Ks .u8 256 (fun _ => 0)) :=
  RArr.made (m := 256) w (Ks .u8 256 (fun _ => 0)).toArray (by simp [Ks]) (by omega) n 32
/-- memory in quernlaw18.awake: the geometry, the image -/
structure A18 (w : World) (q : Nat) (f : Nat → Nat → Int) (W : World) : Prop where
  g : At W w.heap.size 23 (gcells 1 16 4 40)
  a : RArr W q 32 256 58 (bkF f)
  ta : Tab W
  bel : Below w.heap.size w W
theorem A18.below {w : World} {q : Nat} {f : Nat → Nat → Int} {W W' : World} (h : A18 w q f W) (hb : Below W.heap.size W W') : A18 w q f W' :=
  ⟨h.g.below hb h.g.lt, h.a.below hb, h.ta.below hb (Nat.le_refl _), h.bel.trans (hb.mono h.bel.size)⟩
theorem build_copy42 (w : World) : (Instr.build 101 #[(0, .int .i64 42)]).run Tryd.prog w = .ok (.agg (cpc 42 fun _ => 0).toArray) w := by kernel_rfl
theorem rrow_new18 (w : World) (xs : List Value) (T : TypeId) (m : Nat) (f : Nat → List Value) (hf : f 0 = xs) : RRow (w.alloc (.cells xs.toArray T)) (some ⟨w.heap.size, 0, none⟩) m 1 f :=
  .inr ⟨_, _, rfl, fun i hi j v hj => by
    obtain rfl : i = 0 := by omega
    rw [hf] at hj
    rw [show 0 + 0 * m + j = j by omega]
    exact cell_of_heap (heap_alloc_new w _) (by simpa using hj)⟩
/-- memory while the blocks are laid -/
structure L18 (w : World) (q qa qb : Nat) (s : Mv.St) (W : World) : Prop where
  a : A18 w q (if s.n = 0 then wI0 else if s.n = 1 then wI1 else wI) W
  ra : RSeg W qa 0 256 3 (bkF (pkB wa))
  rb : RSeg W qb 0 256 2 (bkF (pkB wb))
  la : qa < W.heap.size
  lb : qb < W.heap.size
theorem L18.grown {w : World} {q qa qb : Nat} {s s' : Mv.St} {W W' : World} (h : L18 w q qa qb s W) (hTl : 0 < w.heap.size) (hq : w.heap.size < q) (ha : q ≠ qa) (hb : q ≠ qb) (hg : W.grownBy W' (some q))
    (hA : RArr W' q 32 256 58 (bkF (if s'.n = 0 then wI0 else if s'.n = 1 then wI1 else wI))) : L18 w q qa qb s' W' := by
  have hs := h.a.bel.size
  have hgl := h.a.g.lt
  have hsg : ∀ b n f, b < W.heap.size → q ≠ b → RSeg W b 0 256 n f → RSeg W' b 0 256 n f := fun b n f hl hne hr i hi j v hv =>
    (World.cell?_of_block (a := ⟨b, 0 + i * 256 + j, none⟩) (hg.block b hl (fun e => hne (by injection e with e; exact e.symm)))).trans (hr i hi j v hv)
  refine ⟨⟨AtGrown h.a.g hg (fun e => by injection e with e; omega), hA, Tab.kept h.a.ta hg (fun e => by injection e with e; omega), h.a.bel.grown hg (by omega) (fun b e => by injection e with e; omega)⟩, hsg _ _ _ h.la ha h.ra, hsg _ _ _ h.lb hb h.rb, ?_, ?_⟩
  · have := h.la; have := hg.size; omega
  · have := h.lb; have := hg.size; omega
/-- the cells of the found rows that are looked at -/
theorem tr_cells {W : World} {a : Option Addr} (h : TrR W a [wa, wb]) {q : Nat} {f : Nat → Nat → Int} (hA : RArr W q 32 256 58 (bkF f)) :
    ∃ b o r m, a = some ⟨b, o, none⟩ ∧ b ≠ q ∧ b < W.heap.size ∧ W.cell? ⟨b, o, none⟩ = some (.int .u32 7) ∧ W.cell? ⟨b, o + 3 + 2, none⟩ = some (.slice r 1 m) := by
  obtain ⟨ca, cc, ra, rc, h1, _⟩ := h
  rcases h1 with h0 | ⟨b, o, rfl, hs⟩
  · cases h0
  have c0 : W.cell? ⟨b, o, none⟩ = some (.int .u32 7) := hs 0 (by decide) 0 (.int .u32 7) rfl
  have c1 : W.cell? ⟨b, o + 3 + 2, none⟩ = some (.slice (ra 1) 1 (rc 1)) := by
    have := hs 1 (by decide) 2 (.slice (ra 1) 1 (rc 1)) rfl
    rwa [Nat.one_mul] at this
  refine ⟨b, o, ra 1, rc 1, rfl, fun e => ?_, World.block_lt_of_cell? W _ c0, c0, c1⟩
  subst e
  obtain ⟨cs, hc, hl⟩ := hA.blk
  have ho : o < 58 * 256 := by
    rw [← hl]
    have := c0
    simp only [World.cell?, hc] at this
    exact (Array.getElem?_eq_some_iff.1 (by simpa using this)).1
  have := hA.seg (o / 256) (by omega) (o % 256) _ (Ks_get .u8 256 (f (o / 256)) (o % 256) (Nat.mod_lt _ (by decide)))
  rw [show 0 + o / 256 * 256 + o % 256 = o by omega, c0] at this
  cases this
/-- memory behind the first Find -/
structure F18 (w : World) (q p b o : Nat) (r : Option Addr) (m : Nat) (f : Nat → Nat → Int) (W : World) : Prop where
  a : A18 w q f W
  h : At W p 36 #[.int .u32 7, .int .i64 39]
  c0 : W.cell? ⟨b, o, none⟩ = some (.int .u32 7)
  c1 : W.cell? ⟨b, o + 3 + 2, none⟩ = some (.slice r 1 m)
theorem F18.below {w : World} {q p b o : Nat} {r : Option Addr} {m : Nat} {f : Nat → Nat → Int} {W W' : World} (h : F18 w q p b o r m f W) (hb : Below W.heap.size W W') : F18 w q p b o r m f W' :=
  ⟨h.a.below hb, h.h.below hb h.h.lt, (hb.cell (p := ⟨b, o, none⟩) (World.block_lt_of_cell? W _ h.c0)).trans h.c0, (hb.cell (p := ⟨b, o + 3 + 2, none⟩) (World.block_lt_of_cell? W _ h.c1)).trans h.c1⟩
theorem F18.only {w : World} {q p b o : Nat} {r : Option Addr} {m : Nat} {f : Nat → Nat → Int} {W W' : World} {k : Nat} (h : F18 w q p b o r m f W) (hTl : 0 < w.heap.size) (ho : Only k W W') (hw : w.heap.size < k) (hq : q ≠ k) (hp : p ≠ k) (hb : b ≠ k) : F18 w q p b o r m f W' :=
  ⟨⟨h.a.g.only ho (by omega), h.a.a.only ho hq, h.a.ta.only ho (by omega), h.a.bel.trans (ho.below (by omega))⟩, h.h.only ho hp, (ho.cell (p := ⟨b, o, none⟩) hb).trans h.c0, (ho.cell (p := ⟨b, o + 3 + 2, none⟩) hb).trans h.c1⟩
theorem wI_3 : wI 3 = fun _ => 0 := by
  rw [wI_eq, if_neg (by decide), if_neg (by decide), if_neg (by decide), if_pos rfl]
  unfold pkB
  rw [if_pos (by decide)]
  exact pk_a1
theorem wJ_byt (b : Nat) : Byt (wJ b) := by
  unfold wJ; split
  · exact wy_byt
  · exact wI_byt b
theorem wy_set : (Ks .u8 256 (fun _ => 0)).set 9 (.int .u8 1) = Ks .u8 256 wy := by kernel_rfl
theorem wJ_set (i : Nat) : (if i = 3 then (bkF wI i).set 9 (.int .u8 1) else bkF wI i) = bkF wJ i := by
  unfold bkF wJ
  by_cases h : i = 3
  · subst h
    rw [if_pos rfl, if_pos rfl, wI_3]
    exact wy_set
  · rw [if_neg h, if_neg h]
/-- what the operations' slots of region 12 hold -/
def VL18 : List Value := [undef, gval 1 16 4 40, .tuple #[.agg #[.int .u32 0, .int .i64 0], .slice none 0 0, .int .u32 0, .int .i64 90], .tuple #[.agg #[.int .u32 0, .int .i64 0], .slice none 0 0, .int .u32 0, .int .i64 90], .agg #[.int .u32 0, .int .i64 0], .slice none 0 0, .int .u32 0, .int .i64 90, undef, undef, .slice none 0 0, .int .u32 0, .int .i64 90]
def VK18 (B : Nat) (i : Nat) (v : Value) (W : World) : Prop :=
  if i = 0 then ∃ g, v = .slice (some ⟨g, 0, none⟩) 58 58 ∧ RArr W g 32 256 58 (bkF fun _ _ => 0)
  else if i = 8 then ∃ g, v = .pointer (some ⟨g, 0, none⟩) ∧ B ≤ g ∧ At W g 36 #[.int .u32 0, .int .i64 0]
  else v = VL18.getD i undef
theorem VK18.below {B i : Nat} {v : Value} {W W' : World} (h : VK18 B i v W) (hb : Below W.heap.size W W') : VK18 B i v W' := by
  unfold VK18 at h ⊢
  split
  · rw [if_pos (by assumption)] at h
    obtain ⟨g, e, hr⟩ := h
    exact ⟨g, e, hr.below hb⟩
  · rw [if_neg (by assumption)] at h
    split
    · rw [if_pos (by assumption)] at h
      obtain ⟨g, e, h1, h2⟩ := h
      exact ⟨g, e, h1, h2.below hb h2.lt⟩
    · rw [if_neg (by assumption)] at h; exact h
theorem VK18.store {B i : Nat} {v : Value} {W W' : World} {k : Nat} (h : VK18 B i v W) (hk : At W k 36 #[.int .u32 0, .int .i64 0]) (ho : Only k W W') (hk' : At W' k 36 #[.int .u32 0, .int .i64 0]) : VK18 B i v W' := by
  unfold VK18 at h ⊢
  split
  · rw [if_pos (by assumption)] at h
    obtain ⟨g, e, hr⟩ := h
    refine ⟨g, e, hr.only ho fun e2 => ?_⟩
    subst e2
    obtain ⟨cs, h1, _⟩ := hr.blk
    have := h1.symm.trans hk
    simp at this
  · rw [if_neg (by assumption)] at h
    split
    · rw [if_pos (by assumption)] at h
      obtain ⟨g, e, h1, h2⟩ := h
      refine ⟨g, e, h1, ?_⟩
      by_cases e2 : g = k
      · subst e2; exact hk'
      · exact h2.only ho e2
    · rw [if_neg (by assumption)] at h; exact h
theorem run_alloc_head (W : World) : (Instr.alloc 36 true (.tuple #[])).run Tryd.prog W = .ok (.pointer (some ⟨W.heap.size, 0, none⟩)) (W.alloc (.cells #[.int .u32 0, .int .i64 0] 36)) := by kernel_rfl
theorem F18.drew {w : World} {q p b o : Nat} {r : Option Addr} {m : Nat} {f : Nat → Nat → Int} {W : World} (h : F18 w q p b o r m f W) (n : Nat) : F18 w q p b o r m f { W with drawn := n } := h.below ⟨rfl, rfl, rfl, Nat.le_refl _, fun _ _ => rfl⟩
theorem nBl_w : nBl 1 16 4 40 = 58 := by decide

set_option maxRecDepth 100000 in
set_option maxHeartbeats 8000000 in
theorem awake18 (w : World) (hT : Tab w) : Calls Tryd.prog 10 #[] w fun e w' => e = .returned (.bool true) ∧ Below w.heap.size w w' := by
  have halg := zero_geo18
  have halh := zero_head
  have hTl := hT.lt
  have hs0 := At.new w 23 (gcells 1 16 4 40)
  have HL0 : Hid (Below w.heap.size w (w.alloc (.cells (gcells 1 16 4 40) 23))) := (Below.refl _ _).alloc (Nat.le_refl _) _
  have HT0 := Lib.hid (hT.alloc (.cells (gcells 1 16 4 40) 23))
  clear hT
  go_enter Tryd.func10, Tryd.ntmps10
  go_wp2_with (first | (refine wp_loadAtG rfl 23 (.tmp 1) rfl _ _ _ rfl hs0 Tryd.underlying23 rfl (by kernel_rfl) ?_))
  refine (geoBlocks_any 1 16 4 40 _).mono ?_
  rintro e w1 ⟨rfl, hb1⟩
  rw [nBl_w]
  have g1 := hs0.below hb1 hs0.lt
  have T1 := HT0.out.below hb1 (Nat.le_refl _)
  have L1 := HL0.out.trans (hb1.mono HL0.out.size)
  obtain ⟨q, hq⟩ : ∃ q, q = w1.heap.size := ⟨_, rfl⟩
  have ST1 : Hid (A18 w q (fun _ _ => 0) (w1.alloc (.cells (madeCells (bval fun _ => 0).cells (58 * 256)) 32))) :=
    ⟨g1.alloc _, by rw [hq]; exact img_made18 w1 58, T1.alloc _, L1.alloc (by have := g1.lt; omega) _⟩
  have hqg : w.heap.size < q := by rw [hq]; exact g1.lt
  have hmk := run_mkimg18 58 (by decide) w1
  replace hmk : (Instr.makeSlice 24 (.int .i64 58) (.int .i64 58)).run Tryd.prog w1 = .ok (.slice (some ⟨w1.heap.size, 0, none⟩) 58 58) (w1.alloc (.cells (madeCells (bval fun _ => 0).cells (58 * 256)) 32)) := hmk
  rw [← hq] at hmk
  obtain ⟨W1, hW1⟩ : ∃ W1, W1 = w1.alloc (.cells (madeCells (bval fun _ => 0).cells (58 * 256)) 32) := ⟨_, rfl⟩
  rw [← hW1] at hmk ST1
  have HQ := Lib.hid hqg
  clear hs0 HL0 HT0 hb1 g1 T1 L1 hW1 hq hqg
  go_wp2_with fail
  refine (writeHead_any 7 39 W1 (by decide) (by decide)).mono ?_
  rintro e w2 ⟨rfl, hb2⟩
  have ST2 := Lib.hid (ST1.out.below hb2)
  have HWI : Hid (wI0 = fun b => if b = 2 then headZ 7 39 else fun _ => 0) := rfl
  obtain ⟨H, hH⟩ : ∃ H, H = headZ 7 39 := ⟨_, rfl⟩
  rw [← hH] at HWI
  rw [← hH]
  have hth := ST2.out.a.there (k := 2) (by decide)
  have hset := Lib.hid (ST2.out.a.set (k := 2) (by decide) (vs := Ks .u8 256 H) (by simp [Ks]) (bkF_len _))
  have ST3 : Hid (A18 w q wI0 (w2.setCells q (2 * 256) (Ks .u8 256 H))) := by
    have ho := hset.out.2
    have h2 := ST2.out
    have := h2.g.lt
    have hq := HQ.out
    have hf : ∀ c, (if c = 2 then Ks .u8 256 H else bkF (fun _ _ => 0) c) = bkF wI0 c := fun c => by
      unfold bkF
      rw [HWI.out]
      dsimp only
      split <;> rfl
    exact ⟨h2.g.only ho (by omega), hset.out.1.congr fun c _ => hf c, h2.ta.only ho (by have : 0 < w.heap.size := hTl; omega), h2.bel.trans (ho.below (by omega))⟩
  have hthD : w2.there q (2 * 256) (Ks .u8 256 H).length := by rw [Ks_length]; exact hth
  clear ST1 ST2 hmk hb2 hset hth hH
  go_wp2_with (first | (refine wp_storeMid rfl 32 (.tmp 31) (.tmp 29) rfl q (2 * 256) (Ks .u8 256 H) rfl rfl hthD (by rw [Ks_length]; exact info_block) (Ks_oneL _ _ _) ?_))
  intro w3 hw3
  rw [← hw3.out] at ST3
  clear hw3 hthD
  go_wp2_with (first | (refine wpList_slice1 rfl 49 1 0 (.tmp 33) rfl (.agg (cpc 42 fun _ => 0).toArray) rfl _ _ (run_copy1 42 (fun _ => 0) _) ?_))
  have hs3 : (w3.alloc (.cells (cpc 42 fun _ => 0).toArray 101)).heap.size = w3.heap.size + 1 := World.size_alloc _ _
  refine (pack_any wa wa_ok (some ⟨w3.heap.size, 0, none⟩) 1 none 0 _ (ST3.out.ta.alloc _) (rrow_new18 w3 (cpc 42 fun _ => 0) 101 257 (cpF wa.cb wa.cd) rfl) (.inl rfl) (fun b off e => by injection e with e; injection e with e1 e2; rw [hs3]; omega) (fun b off e => by cases e) (Nat.le_refl _) (Nat.le_refl _)).mono ?_
  rintro e w4 ⟨hp, hb4⟩
  rcases hp with ⟨hE, _⟩ | ⟨_, qa, rfl, hqa, hA4⟩
  · exact absurd wa_E hE
  rw [wa_c]
  rw [wa_c] at hA4
  have ST4 := Lib.hid ((ST3.out.below ((Below.refl _ _).alloc (Nat.le_refl _) (.cells (cpc 42 fun _ => 0).toArray 101))).below hb4)
  have hb4' := hb4.size
  have RA4 := Lib.hid (BOwn.seg hA4)
  have LA4 := hA4.lt
  have hq3 : q < w3.heap.size := ST3.out.a.lt
  have HQA : Hid (q < qa) := by show q < qa; omega
  clear hs3 ST3 hb4 hA4 hqa hb4' hq3
  go_wp2_with (first | (refine wpList_slice1 rfl 45 1 0 _ rfl (.int .i64 43) rfl _ _ (run_int1 43 _) ?_))
  have hs4 : (w4.alloc (.cells #[.int .i64 43] 3)).heap.size = w4.heap.size + 1 := World.size_alloc _ _
  refine (pack_any wb wb_ok none 0 (some ⟨w4.heap.size, 0, none⟩) 1 _ (ST4.out.ta.alloc _) (.inl rfl) (rrow_new18 w4 [.int .i64 43] 3 1 (inF wb.rv) rfl) (fun b off e => by cases e) (fun b off e => by injection e with e; injection e with e1 e2; rw [hs4]; omega) (Nat.le_refl _) (Nat.le_refl _)).mono ?_
  rintro e w5 ⟨hp, hb5⟩
  rcases hp with ⟨hE, _⟩ | ⟨_, qb, rfl, hqb, hB5⟩
  · exact absurd wb_E hE
  rw [wb_c]
  rw [wb_c] at hB5
  have hal4 : Below w4.heap.size w4 (w4.alloc (.cells #[.int .i64 43] 3)) := (Below.refl _ _).alloc (Nat.le_refl _) _
  have ST5 := Lib.hid ((ST4.out.below hal4).below hb5)
  have RB5 := Lib.hid (BOwn.seg hB5)
  have LB5 := hB5.lt
  have RA5 := Lib.hid ((RA4.out.below hal4 LA4).below hb5 (by rw [hs4]; omega))
  have LA5 : qa < w5.heap.size := by have := hb5.size; omega
  have hq4 : q < w4.heap.size := ST4.out.a.lt
  have HQB : Hid (q < qb) := by show q < qb; omega
  have st0 : L18 w q qa qb ⟨0, undef⟩ { w5 with drawn := w5.drawn + 1 } := ⟨ST5.out.below (Below.refl _ _).drew, fun i hi j v hv => RA5.out i hi j v hv, fun i hi j v hv => RB5.out i hi j v hv, LA5, LB5⟩
  have LS := Lib.hid st0
  clear hs4 ST4 ST5 hb5 hB5 hqb hal4 hq4 RA4 RA5 RB5 LA4 LA5 LB5 st0
  go_wp2_with fail
  refine Mv.wp_region_mc (L18 w q qa qb) ⟨0, undef⟩ (by kernel_rfl) (by kernel_rfl) (by kernel_rfl) LS.out ?_
  clear LS
  intro hne
  (refine Mv.lin_take 5 (by kernel_rfl) ?_; simp only [List.take_succ_cons, List.take_zero, List.drop_succ_cons, List.drop_zero])
  first | go_big_quiet_skip | (go_big_quiet_want; go_big_quiet_op; go_big_quiet_on)
  refine q_load rfl 23 (.tmp 1) rfl _ _ rfl (gcells 1 16 4 40).toList _ (fun W h => by obtain ⟨_, h⟩ := h; exact h.a.g.range) Tryd.underlying23 rfl (by kernel_rfl) ?_
  refine wpQuiet_frame (by simp only [Act.put, List.setIfInBounds_toArray, List.set_cons_succ, List.set_cons_zero]; exact rfl) ?_
  first | go_big_quiet_skip | (go_big_quiet_want; go_big_quiet_op; go_big_quiet_on)
  refine q_load rfl 23 (.tmp 1) rfl _ _ rfl (gcells 1 16 4 40).toList _ (fun W h => by obtain ⟨_, h⟩ := h; exact h.a.g.range) Tryd.underlying23 rfl (by kernel_rfl) ?_
  refine wpQuiet_frame (by simp only [Act.put, List.setIfInBounds_toArray, List.set_cons_succ, List.set_cons_zero]; exact rfl) ?_
  first | go_big_quiet_skip | (go_big_quiet_want; go_big_quiet_op; go_big_quiet_on)
  refine wpQuiet_nil ?_
  refine Mv.lin_call rfl rfl 16 #[.slice (some ⟨q, 0, none⟩) 58 58, gval 1 16 4 40, .int .i64 39, .slice (some ⟨qa, 0, none⟩) 3 3] (.int .i64 42) ⟨1, undef⟩ (fun W => by kernel_rfl) (fun W hW => ?c0) ?_
  case c0 =>
    have := HQ.out
    have := HQA.out
    have := HQB.out
    refine (lay18_any q 58 wI0 1 16 4 40 39 (some ⟨qa, 0, none⟩) 3 3 (pkB wa) (by decide) (by decide) (by decide) (by decide) (by decide) (by decide) (by decide) W hW.a.a (.inr ⟨qa, 0, rfl, hW.ra⟩) (fun b off e _ => by injection e with e; injection e with e1 e2; omega)).mono ?_
    rintro e w6 ⟨rfl, hA6, hg6⟩
    exact ⟨rfl, hW.grown hTl HQ.out (by omega) (by omega) hg6 (s' := ⟨1, undef⟩) hA6⟩
  refine Mv.frame (by simp only [Act.put, List.setIfInBounds_toArray, List.set_cons_succ, List.set_cons_zero]; exact rfl) ?_
  (refine Mv.lin_take 1 (by kernel_rfl) ?_; simp only [List.take_succ_cons, List.take_zero, List.drop_succ_cons, List.drop_zero])
  first | go_big_quiet_skip | (go_big_quiet_want; go_big_quiet_op; go_big_quiet_on)
  refine wpQuiet_nil ?_
  refine Mv.lin_call rfl rfl 16 #[.slice (some ⟨q, 0, none⟩) 58 58, gval 1 16 4 40, .int .i64 42, .slice (some ⟨qb, 0, none⟩) 2 2] (.int .i64 44) ⟨2, undef⟩ (fun W => by kernel_rfl) (fun W hW => ?c1) ?_
  case c1 =>
    have := HQ.out
    have := HQA.out
    have := HQB.out
    refine (lay18_any q 58 wI1 1 16 4 40 42 (some ⟨qb, 0, none⟩) 2 2 (pkB wb) (by decide) (by decide) (by decide) (by decide) (by decide) (by decide) (by decide) W hW.a.a (.inr ⟨qb, 0, rfl, hW.rb⟩) (fun b off e _ => by injection e with e; injection e with e1 e2; omega)).mono ?_
    rintro e w6 ⟨rfl, hA6, hg6⟩
    exact ⟨rfl, hW.grown hTl HQ.out (by omega) (by omega) hg6 (s' := ⟨2, undef⟩) hA6⟩
  refine Mv.frame (by simp only [Act.put, List.setIfInBounds_toArray, List.set_cons_succ, List.set_cons_zero]; exact rfl) ?_
  (refine Mv.lin_take 1 (by kernel_rfl) ?_; simp only [List.take_succ_cons, List.take_zero, List.drop_succ_cons, List.drop_zero])
  first | go_big_quiet_skip | (go_big_quiet_want; go_big_quiet_op; go_big_quiet_on)
  refine wpQuiet_nil ?_
  refine Mv.wpLin_nil ?_
  intro w6 h6
  have st6 : A18 w q wI w6 := h6.a
  have ST6 := Lib.hid st6
  clear st6 h6 hne
  have hg6 := ST6.out.g
  go_wp2_with (first | (refine wp_loadAtG rfl 23 (.tmp 1) rfl _ _ _ rfl hg6 Tryd.underlying23 rfl (by kernel_rfl) ?_))
  refine (find18_any 1 16 4 40 (some ⟨q, 0, none⟩) 58 58 wI (fun i => wI_byt i) (Nat.le_refl _) (by decide) w6 ST6.out.ta (.inr ⟨q, 0, rfl, ST6.out.a.seg⟩)).mono ?_
  rintro e w7 ⟨hp, hb7⟩
  rcases hp with ⟨hE, _⟩ | ⟨_, a7, k7, rfl, hR⟩
  · exact absurd w_fdE hE
  rw [w_fdL, wI_2, wHead.2.1, wHead.2.2, show ([wa, wb] : List Tr).length = 2 from rfl, show (7 : Int) + ((2 : Nat) : Int) + 1 = 10 from rfl]
  rw [w_fdL] at hR
  have ST7 := ST6.out.below hb7
  obtain ⟨b7, o7, r7, m7, rfl, hb7q, hb7l, c70, c71⟩ := tr_cells hR.1 ST7.a
  obtain ⟨p7, hp7⟩ : ∃ p, p = w7.heap.size := ⟨_, rfl⟩
  have hd7 := At.new w7 36 #[.int .u32 0, .int .i64 0]
  have hq7 : q < w7.heap.size := ST7.a.lt
  have hal7 : Below w7.heap.size w7 (w7.alloc (.cells #[.int .u32 0, .int .i64 0] 36)) := (Below.refl _ _).alloc (Nat.le_refl _) _
  have FT7 := Lib.hid (ST7.below hal7)
  have HC70 : Hid ((w7.alloc (.cells #[.int .u32 0, .int .i64 0] 36)).cell? ⟨b7, o7, none⟩ = some (.int .u32 7)) := (hal7.cell (p := ⟨b7, o7, none⟩) hb7l).trans c70
  have HC71 : Hid ((w7.alloc (.cells #[.int .u32 0, .int .i64 0] 36)).cell? ⟨b7, o7 + 3 + 2, none⟩ = some (.slice r7 1 m7)) := (hal7.cell (p := ⟨b7, o7 + 3 + 2, none⟩) hb7l).trans c71
  rw [← hp7] at hd7 hb7l hq7
  have HBP : Hid (b7 ≠ q ∧ b7 < p7 ∧ q < p7) := ⟨hb7q, hb7l, hq7⟩
  have HP7 := Lib.hid hp7
  clear ST6 hg6 hb7 hR ST7 hb7q hb7l hq7 c70 c71 hal7 hp7
  go_wp2_with (first | (refine wp_storeAt rfl 36 (.tmp 8) (.tmp 57) rfl p7 #[.int .u32 7, .int .i64 39] _ (by rw [HP7.out]; rfl) rfl hd7 (info_head 0 0) rfl (one_head _ _) ?_))
  intro w8 hd8 ho8
  rw [← HP7.out]
  obtain ⟨hbq, hbp, hqp⟩ := HBP.out
  have F8 : Hid (F18 w q p7 b7 o7 r7 m7 wI w8) := by
    have h := FT7.out
    have hq := HQ.out
    exact ⟨⟨h.g.only ho8 (by omega), h.a.only ho8 (by omega), h.ta.only ho8 (by have : 0 < w.heap.size := hTl; omega), h.bel.trans (ho8.below (by omega))⟩, hd8, (ho8.cell (p := ⟨b7, o7, none⟩) (by show b7 ≠ p7; omega)).trans HC70.out, (ho8.cell (p := ⟨b7, o7 + 3 + 2, none⟩) (by show b7 ≠ p7; omega)).trans HC71.out⟩
  clear FT7 HC70 HC71 HP7 hd7 hd8 ho8
  go_wp2_with fail
  refine wp_region_bar2 (F18 w q p7 b7 o7 r7 m7 wI) 7 (by kernel_rfl) (by kernel_rfl) (by kernel_rfl) (by kernel_rfl) (by kernel_rfl) (by decide) (F8.out.below (Below.refl _ _).drew) ?_
  simp only [List.take_succ_cons, List.take_zero, List.drop_succ_cons, List.drop_zero]
  clear F8
  intro hne
  have d3 : ∀ y : InW (F18 w q p7 b7 o7 r7 m7 wI), y.W.cell? ⟨q, 777, none⟩ = some (.int .u8 0) := fun y => by
    have := y.h.a.a.seg 3 (by decide) 9 _ (Ks_get .u8 256 (wI 3) 9 (by decide))
    rw [wI_3] at this
    exact this
  repeat (first | go_big_quiet_skip | (go_big_quiet_want; go_big_quiet_op; go_big_quiet_on))
  refine wpQuiet_nil ?_
  intro w9 h9
  have st9 := h9.out
  have c9 : w9.cell? ⟨q, 777, none⟩ = some (.int .u8 0) := d3 ⟨w9, st9⟩
  have f9 : w9.frozen? ⟨q, 777, none⟩ = false := by obtain ⟨cs, hc, _⟩ := st9.a.a.blk; exact soft_of_heap hc 777
  have FJ : Hid (F18 w q p7 b7 o7 r7 m7 wJ (w9.setCell ⟨q, 777, none⟩ (.int .u8 1))) := by
    have ho : Only q w9 (w9.setCell ⟨q, 777, none⟩ (.int .u8 1)) := Only.setCell w9 ⟨q, 777, none⟩ (.int .u8 1)
    have hA := st9.a.a.cellset (k := 3) (j := 9) (by decide) (by decide) (bkF_len _) (.int .u8 1)
    have hq := HQ.out
    refine ⟨⟨st9.a.g.only ho (by omega), hA.congr fun i _ => wJ_set i, st9.a.ta.only ho (by have : 0 < w.heap.size := hTl; omega), st9.a.bel.trans (ho.below (by omega))⟩, st9.h.only ho (by omega), (ho.cell (p := ⟨b7, o7, none⟩) hbq).trans st9.c0, (ho.cell (p := ⟨b7, o7 + 3 + 2, none⟩) hbq).trans st9.c1⟩
  clear st9 h9 hne d3
  have hg10 := FJ.out.a.g
  go_wp2_with (first | (refine wp_loadAtG rfl 23 (.tmp 1) rfl _ _ _ rfl hg10 Tryd.underlying23 rfl (by kernel_rfl) ?_))
  obtain ⟨wj, hwj⟩ : ∃ wj, wj = w9.setCell ⟨q, 777, none⟩ (.int .u8 1) := ⟨_, rfl⟩
  rw [← hwj] at FJ
  rw [← hwj]
  clear hwj c9 f9 hg10
  refine (find18_any 1 16 4 40 (some ⟨q, 0, none⟩) 58 58 wJ (fun i => wJ_byt i) (Nat.le_refl _) (by decide) wj FJ.out.a.ta (.inr ⟨q, 0, rfl, FJ.out.a.a.seg⟩)).mono ?_
  rintro e wa1 ⟨hp, hb10⟩
  rcases hp with ⟨hE, _⟩ | ⟨_, a10, k10, rfl, hR⟩
  · exact absurd w_fdEJ hE
  rw [w_fdLJ, wJ_2, wHead.2.1, wHead.2.2, show ([] : List Tr).length = 0 from rfl, show (7 : Int) + ((0 : Nat) : Int) + 1 = 8 from rfl]
  obtain ⟨p10, hp10⟩ : ∃ p, p = wa1.heap.size := ⟨_, rfl⟩
  have hd10 := At.new wa1 36 #[.int .u32 0, .int .i64 0]
  have FA := FJ.out.below hb10
  have hq10 : q < wa1.heap.size := FA.a.a.lt
  have hp710 : p7 < wa1.heap.size := FA.h.lt
  have hb710 : b7 < wa1.heap.size := World.block_lt_of_cell? _ _ FA.c0
  have FB := Lib.hid (FA.below ((Below.refl wa1.heap.size wa1).alloc (Nat.le_refl _) (.cells #[.int .u32 0, .int .i64 0] 36)))
  rw [← hp10] at hd10 hq10 hp710 hb710
  have HP10 := Lib.hid hp10
  clear hp10 FA FJ hR hb10
  go_wp2_with (first | (refine wp_storeAt rfl 36 (.tmp 12) (.tmp 72) rfl p10 #[.int .u32 7, .int .i64 39] _ (by rw [HP10.out]; rfl) rfl hd10 (info_head 0 0) rfl (one_head _ _) ?_))
  intro w11 hd11 ho11
  rw [← HP10.out]
  have F11 : Hid (F18 w q p7 b7 o7 r7 m7 wJ w11) := FB.out.only hTl ho11 (by have := HQ.out; omega) (by omega) (by omega) (by omega)
  have hp10l : p10 < w11.heap.size := hd11.lt
  clear FB HP10 hd10 hd11 ho11
  go_wp2_with fail
  have hal : ∀ (W : World) (o : Obj), Below W.heap.size W (W.alloc o) := fun W o => (Below.refl _ _).alloc (Nat.le_refl _) o
  obtain ⟨B, hB0⟩ : ∃ B, B = w11.heap.size := ⟨_, rfl⟩
  have hp10B : p10 < B := by rw [hB0]; exact hp10l
  refine Vl.wp_region_val (VK18 B) (fun _ W => F18 w q p7 b7 o7 r7 m7 wJ W ∧ B ≤ W.heap.size) (by kernel_rfl) (by kernel_rfl) (fun _ _ _ _ h => h) ⟨F11.out.drew _, by rw [hB0]; exact Nat.le_refl _⟩ (fun hB => ⟨?_, ?_, ?_, ?_, ?_, ?_, ?_, ?_, ?_, ?_, ?_, ?_, ?_, trivial⟩) (by kernel_rfl) ?_
  · intro l a W hl hu h
    exact Vl.step h hB rfl rfl rfl hl (op_val (Vl.r_mks 24 _ _ _ _ rfl rfl rfl (run_mkimg18 58 (by decide) W)) ⟨_, rfl, fun _ _ _ hv => hv.below (hal W _), ⟨_, rfl, img_made18 W 58⟩, ⟨h.st.1.below (hal W _), Nat.le_trans h.st.2 (hal W _).size⟩⟩)
  · intro l a W hl hu h
    exact Vl.stepQ h hB rfl rfl rfl hl (gval 1 16 4 40) (Vl.r_ldrow 23 (.tmp 1) rfl w.heap.size (gcells 1 16 4 40) _ (((h.old 1 (by kernel_rfl))).trans rfl) h.st.1.a.g Tryd.underlying23 rfl (by kernel_rfl)) rfl (fun s => s)
  · intro l a W hl hu h
    obtain ⟨g, hg, hr⟩ := h.vals 0 77 (op_up hu 0 (by kernel_rfl)) rfl
    have h1 : a.tmps.getD 78 undef = gval 1 16 4 40 := h.vals 1 78 (op_up hu 1 (by kernel_rfl)) rfl
    refine Vl.step h hB rfl rfl rfl hl (Vl.op_call 19 #[.slice (some ⟨g, 0, none⟩) 58 58, gval 1 16 4 40] (Vl.r_call2 19 (.tmp 77) (.tmp 78) _ _ _ rfl hg h1 (by kernel_rfl)) ?_)
    refine (find18_any 1 16 4 40 (some ⟨g, 0, none⟩) 58 58 (fun _ _ => 0) (fun _ => zero_byt18) (Nat.le_refl _) (by decide) W h.st.1.a.ta (.inr ⟨g, 0, rfl, hr.seg⟩)).mono ?_
    rintro e W' ⟨hp, hb⟩
    rcases hp with ⟨_, rfl⟩ | ⟨hE, _⟩
    rotate_left
    · exact absurd (w_fdE0.symm.trans hE) (by decide)
    rw [w_fdE0]
    exact ⟨_, rfl, _, rfl, fun _ _ _ hv => hv.below hb, rfl, h.st.1.below hb, Nat.le_trans h.st.2 hb.size⟩
  · intro l a W hl hu h
    exact Vl.stepQ h hB rfl rfl rfl hl (.tuple #[.agg #[.int .u32 0, .int .i64 0], .slice none 0 0, .int .u32 0, .int .i64 90]) (Vl.r_move (.tmp 79) rfl (h.vals 2 79 (op_up hu 2 (by kernel_rfl)) rfl)) rfl (fun s => s)
  · intro l a W hl hu h
    exact Vl.stepQ h hB rfl rfl rfl hl (.agg #[.int .u32 0, .int .i64 0]) (Vl.r_extract (.tmp 76) 0 #[.agg #[.int .u32 0, .int .i64 0], .slice none 0 0, .int .u32 0, .int .i64 90] rfl (h.vals 3 76 (op_up hu 3 (by kernel_rfl)) rfl) rfl) rfl (fun s => s)
  · intro l a W hl hu h
    exact Vl.stepQ h hB rfl rfl rfl hl (.slice none 0 0) (Vl.r_extract (.tmp 76) 1 #[.agg #[.int .u32 0, .int .i64 0], .slice none 0 0, .int .u32 0, .int .i64 90] rfl (h.vals 3 76 (op_up hu 3 (by kernel_rfl)) rfl) rfl) rfl (fun s => s)
  · intro l a W hl hu h
    exact Vl.stepQ h hB rfl rfl rfl hl (.int .u32 0) (Vl.r_extract (.tmp 76) 2 #[.agg #[.int .u32 0, .int .i64 0], .slice none 0 0, .int .u32 0, .int .i64 90] rfl (h.vals 3 76 (op_up hu 3 (by kernel_rfl)) rfl) rfl) rfl (fun s => s)
  · intro l a W hl hu h
    exact Vl.stepQ h hB rfl rfl rfl hl (.int .i64 90) (Vl.r_extract (.tmp 76) 3 #[.agg #[.int .u32 0, .int .i64 0], .slice none 0 0, .int .u32 0, .int .i64 90] rfl (h.vals 3 76 (op_up hu 3 (by kernel_rfl)) rfl) rfl) rfl (fun s => s)
  · intro l a W hl hu h
    exact Vl.step h hB rfl rfl rfl hl (op_val (Vl.r_alloc 36 rfl (run_alloc_head W)) ⟨_, rfl, fun _ _ _ hv => hv.below (hal W _), ⟨_, rfl, h.st.2, At.new W _ _⟩, ⟨h.st.1.below (hal W _), Nat.le_trans h.st.2 (hal W _).size⟩⟩)
  · intro l a W hl hu h
    obtain ⟨g, hg, hgB, hA⟩ := h.vals 8 16 (op_up hu 8 (by kernel_rfl)) rfl
    have h4 : a.tmps.getD 80 undef = .agg #[.int .u32 0, .int .i64 0] := h.vals 4 80 (op_up hu 4 (by kernel_rfl)) rfl
    refine Vl.step h hB rfl rfl rfl hl (op_strow 36 (.tmp 16) (.tmp 80) rfl g #[.int .u32 0, .int .i64 0] _ hg h4 hA (info_head 0 0) rfl (one_head _ _) ?_)
    intro W' hA' ho
    exact ⟨_, rfl, fun _ _ _ hv => hv.store hA ho hA', rfl, h.st.1.only hTl ho (by have := HQ.out; omega) (by omega) (by omega) (by omega), by have := ho.size; have := h.st.2; omega⟩
  · intro l a W hl hu h
    exact Vl.stepQ h hB rfl rfl rfl hl (.slice none 0 0) (Vl.r_assign (.tmp 81) rfl (h.vals 5 81 (op_up hu 5 (by kernel_rfl)) rfl)) rfl (fun s => s)
  · intro l a W hl hu h
    exact Vl.stepQ h hB rfl rfl rfl hl (.int .u32 0) (Vl.r_assign (.tmp 82) rfl (h.vals 6 82 (op_up hu 6 (by kernel_rfl)) rfl)) rfl (fun s => s)
  · intro l a W hl hu h
    exact Vl.stepQ h hB rfl rfl rfl hl (.int .i64 90) (Vl.r_assign (.tmp 83) rfl (h.vals 7 83 (op_up hu 7 (by kernel_rfl)) rfl)) rfl (fun s => s)
  intro a' w12 h
  have hall := h.all [77, 78, 79, 76, 80, 81, 82, 83, 16, 17, 18, 19] (Vl.ds_in (by kernel_rfl))
  obtain ⟨g12, e77, _⟩ := h.vals 0 77 rfl rfl
  obtain ⟨p16, e16, _, _⟩ := h.vals 8 16 rfl rfl
  have e78 : a'.tmps.getD 78 undef = gval 1 16 4 40 := h.vals 1 78 rfl rfl
  have e79 : a'.tmps.getD 79 undef = .tuple #[.agg #[.int .u32 0, .int .i64 0], .slice none 0 0, .int .u32 0, .int .i64 90] := h.vals 2 79 rfl rfl
  have e76 : a'.tmps.getD 76 undef = .tuple #[.agg #[.int .u32 0, .int .i64 0], .slice none 0 0, .int .u32 0, .int .i64 90] := h.vals 3 76 rfl rfl
  have e80 : a'.tmps.getD 80 undef = .agg #[.int .u32 0, .int .i64 0] := h.vals 4 80 rfl rfl
  have e81 : a'.tmps.getD 81 undef = .slice none 0 0 := h.vals 5 81 rfl rfl
  have e82 : a'.tmps.getD 82 undef = .int .u32 0 := h.vals 6 82 rfl rfl
  have e83 : a'.tmps.getD 83 undef = .int .i64 90 := h.vals 7 83 rfl rfl
  have e17 : a'.tmps.getD 17 undef = .slice none 0 0 := h.vals 10 17 rfl rfl
  have e18 : a'.tmps.getD 18 undef = .int .u32 0 := h.vals 11 18 rfl rfl
  have e19 : a'.tmps.getD 19 undef = .int .i64 90 := h.vals 12 19 rfl rfl
  have F12 := Lib.hid h.st.1
  clear h
  rw [List.foldl_cons, List.foldl_cons, List.foldl_cons, List.foldl_cons, List.foldl_cons, List.foldl_cons, List.foldl_cons, List.foldl_cons, List.foldl_cons, List.foldl_cons, List.foldl_cons, List.foldl_cons, List.foldl_nil] at hall
  rw [e77, e78, e79, e76, e80, e81, e82, e83, e17, e18, e19, e16] at hall
  clear e77 e78 e79 e76 e80 e81 e82 e83 e17 e18 e19 e16
  simp only [Act.put, List.setIfInBounds_toArray, List.set_cons_succ, List.set_cons_zero] at hall
  subst hall
  have g12a := F12.out.a.g
  have d12 : w12.cell? ⟨p7, 1, none⟩ = some (.int .i64 39) := F12.out.h.cell (i := 1) rfl
  have d13 := F12.out.c0
  have d14 := F12.out.c1
  clear F11 hal
  go_wp2_with (first | (refine wp_loadAtG rfl 23 (.tmp 1) rfl _ _ _ rfl g12a Tryd.underlying23 rfl (by kernel_rfl) ?_))
  refine (outside_any 1 16 4 40 42 (by decide) (by decide) w12).mono ?_
  rintro e w13 ⟨rfl, hb13⟩
  rw [show outB 1 16 4 40 42 = true by decide]
  have g13 := g12a.below hb13 g12a.lt
  have L13 := Lib.hid (F12.out.a.bel.trans (hb13.mono F12.out.a.bel.size))
  clear F12 g12a d12 d13 d14 hb13
  go_wp2_with (first | (refine wp_loadAtG rfl 23 (.tmp 1) rfl _ _ _ rfl g13 Tryd.underlying23 rfl (by kernel_rfl) ?_))
  refine (outside_any 1 16 4 40 41 (by decide) (by decide) w13).mono ?_
  rintro e w14 ⟨rfl, hb14⟩
  rw [show outB 1 16 4 40 41 = false by decide]
  have g14 := g13.below hb14 g13.lt
  have L14 := Lib.hid (L13.out.trans (hb14.mono L13.out.size))
  clear g13 L13 hb14
  go_wp2_with (first | (refine wp_loadAtG rfl 23 (.tmp 1) rfl _ _ _ rfl g14 Tryd.underlying23 rfl (by kernel_rfl) ?_))
  refine (outside_any 1 16 4 40 58 (by decide) (by decide) w14).mono ?_
  rintro e w15 ⟨rfl, hb15⟩
  rw [show outB 1 16 4 40 58 = false by decide]
  have L15 := Lib.hid (L14.out.trans (hb15.mono L14.out.size))
  clear g14 L14 hb15
  go_wp2_with fail
  go_ret
  exact ⟨rfl, L15.out⟩
end Go.Proofs.YtnbmmhoofilmfaaDoor
