/- Texts of this claim, merged by a program (a claim may have 60 files): MkE. -/
import Derived.Test.YtnbmmhoofilmfaaGreatDoorK17
import Derived.Test.YtnbmmhoofilmfaaGreatDoorK22
/- mkfs.Make. -/
namespace Go.Proofs.YtnbmmhoofilmfaaGreatDoor
open Go.RowKit
set_option linter.unusedVariables false

/-- where things stand in mkfs.Make -/
structure MkO (B q p2 p1 px : Nat) : Prop where
  t : 0 < B
  a : B < q
  b : q < p2
  c : p2 < p1
  d : p1 < px
structure MkT (w : World) (G S I J : Int) (p1 p2 px q n : Nat) (zx : Nat → Int) (im : Nat → Nat → Int) (W : World) : Prop where
  g : At W w.heap.size 23 (gcells G S I J)
  i : At W p2 29 #[.slice (some ⟨q, 0, none⟩) n n]
  e : At W p1 48 #[.int .i64 0]
  a : RArr W q 32 256 n (fun i => Ks .u8 256 (im i))
  x : Blk W px 32 256 zx
  t : Tab W
  bel : Below w.heap.size w W
section
variable {w : World} {G S I J : Int} {p1 p2 px q n : Nat} {zx zx' : Nat → Int} {im im' : Nat → Nat → Int} {W W' : World}
theorem MkT.below (h : MkT w G S I J p1 p2 px q n zx im W) (hb : Below W.heap.size W W') : MkT w G S I J p1 p2 px q n zx im W' :=
  ⟨h.g.below hb h.g.lt, h.i.below hb h.i.lt, h.e.below hb h.e.lt, h.a.below hb, h.x.below hb h.x.lt, h.t.below hb (Nat.le_refl _), h.bel.trans (hb.mono h.bel.size)⟩
theorem MkT.store (h : MkT w G S I J p1 p2 px q n zx im W) (o : MkO w.heap.size q p2 p1 px) (hB : Blk W' px 32 256 zx') (ho : Only px W W') : MkT w G S I J p1 p2 px q n zx' im W' := by
  obtain ⟨o1, o2, o3, o4, o5⟩ := o
  exact ⟨h.g.only ho (by omega), h.i.only ho (by omega), h.e.only ho (by omega), h.a.only ho (by omega), hB, h.t.only ho (by omega), h.bel.trans (ho.below (by omega))⟩
theorem MkT.put (h : MkT w G S I J p1 p2 px q n zx im W) (o : MkO w.heap.size q p2 p1 px) (hA : RArr W' q 32 256 n (fun i => Ks .u8 256 (im' i))) (hw : ∃ W1, Below W.heap.size W W1 ∧ Only q W1 W') : MkT w G S I J p1 p2 px q n zx im' W' := by
  obtain ⟨o1, o2, o3, o4, o5⟩ := o
  obtain ⟨W1, hb, ho⟩ := hw
  have h1 := h.below hb
  exact ⟨h1.g.only ho (by omega), h1.i.only ho (by omega), h1.e.only ho (by omega), hA, h1.x.only ho (by omega), h1.t.only ho (by omega), h1.bel.trans (ho.below (by omega))⟩
theorem MkT.grown (h : MkT w G S I J p1 p2 px q n zx im W) (o : MkO w.heap.size q p2 p1 px) (hB : Blk W' px 32 256 zx') (hg : W.grownBy W' (some px)) : MkT w G S I J p1 p2 px q n zx' im W' := by
  obtain ⟨o1, o2, o3, o4, o5⟩ := o
  exact ⟨h.g.grown hg (fun e => by cases e; omega), h.i.grown hg (fun e => by cases e; omega), h.e.grown hg (fun e => by cases e; omega), h.a.grown hg (fun e => by cases e; omega), hB, h.t.grown hg (fun e => by cases e; omega), h.bel.grown hg h.bel.size (fun k e => by cases e; omega)⟩
theorem MkT.congr (h : MkT w G S I J p1 p2 px q n zx im W) (e : ∀ b, b < n → im b = im' b) : MkT w G S I J p1 p2 px q n zx im' W :=
  ⟨h.g, h.i, h.e, h.a.congr fun b hb => by rw [e b hb], h.x, h.t, h.bel⟩
end
/-- the drawn region with two calls and a store: 0: ahead; 1: the descriptors are there; 2: their block is; 3: it is stored -/
structure MkM (w : World) (G S I J : Int) (p1 p2 px q n : Nat) (zx zd : Nat → Int) (im : Nat → Nat → Int) (k : Nat) (f : Nat → List Value) (t : Mv.St) (W : World) : Prop where
  m : MkT w G S I J p1 p2 px q n (if t.n = 3 then zd else zx) im W
  d : t.n = 1 → ∃ a cap, t.v = .slice a k cap ∧ RRow W a 3 k f
/-- the image that Make gives -/
structure MkImg (w : World) (g s i j q : Nat) (w' : World) : Prop where
  le : w.heap.size ≤ q
  a : RArr w' q 32 256 (2 + j + g * s) (fun b => Ks .u8 256 (mkB g s i j b))
  bel : Below w.heap.size w w'

theorem bitmap_anyI (used size : Nat) (U Z : Int) (hU : U = used) (hZ : Z = size) (h1 : used ≤ size) (h2 : size ≤ 2048) (w : World) :
    Calls Tryz.prog 69 #[.int .i64 U, .int .i64 Z] w fun e w' => e = .returned (bval (bZ (mapB used size))) ∧ Below w.heap.size w w' := by
  subst hU hZ; exact bitmap_any used size h1 h2 w
theorem mkWrite_anyI (p1 p2 q n : Nat) (f : Nat → Nat → Int) (b : Nat) (B : Int) (hB : B = b) (hb : b < n) (hn : n ≤ 2048) (z : Nat → Int) (w : World) (hi : At w p2 29 #[.slice (some ⟨q, 0, none⟩) n n])
    (ha : RArr w q 32 256 n (fun i => Ks .u8 256 (f i))) :
    Calls Tryz.prog 64 #[.int .i64 B, bval z, .int .i64 0, .pointer (some ⟨p1, 0, none⟩), .pointer (some ⟨p2, 0, none⟩)] w fun e w' => (∃ v, e = .returned v) ∧
      RArr w' q 32 256 n (fun i => Ks .u8 256 (if i = b then z else f i)) ∧ ∃ W1, Below w.heap.size w W1 ∧ Only q W1 w' := by
  subst hB; exact mkWrite_any p1 p2 q n f b hb hn z w hi ha

set_option maxRecDepth 100000 in
set_option maxHeartbeats 8000000 in
theorem make_yes (g s i j : Nat) (hm : mayG g s i j = true) (w : World) (hT : Tab w) :
    Calls Tryz.prog 34 #[gval g s i j] w fun e w' => ∃ q, e = .returned (.tuple #[.slice (some ⟨q, 0, none⟩) (2 + j + g * s) (2 + j + g * s), .int .i64 0]) ∧ MkImg w g s i j q w' := by
  obtain ⟨h1, h2, h3, h4, h5, h6, h7, h8, h9, h10, h11⟩ := mayN hm
  have hal := zero_block
  have hTl := hT.lt
  have hs0 := At.new w 23 (gcells g s i j)
  have hL0 : Below w.heap.size w (w.alloc (.cells (gcells g s i j) 23)) := (Below.refl _ _).alloc (Nat.le_refl _) _
  have HT0 := Lib.hid (hT.alloc (.cells (gcells g s i j) 23))
  have HM := Lib.hid hm
  have HN : Hid (nBl g s i j = ((2 + j + g * s : Nat) : Int)) := by show _ = _; unfold nBl; rw [hm]; simp
  clear hT hm
  go_enter Tryz.func34, Tryz.ntmps34
  go_wp2_with (first | (refine wp_loadAtG rfl 23 (.tmp 1) rfl _ _ _ rfl hs0 Tryz.underlying23 rfl (by kernel_rfl) ?_))
  refine (geoMay_any g s i j _).mono ?_
  rintro e w1 ⟨rfl, hb1⟩
  rw [HM.out]
  have hs1 := hs0.below hb1 hs0.lt
  have HL1 := Lib.hid (hL0.trans (hb1.mono hL0.size))
  have HT1 := Lib.hid (HT0.out.below hb1 (Nat.le_refl _))
  clear hs0 hL0 HT0 hb1
  go_wp2_with (first | (refine wp_loadAtG rfl 23 (.tmp 1) rfl _ _ _ rfl hs1 Tryz.underlying23 rfl (by kernel_rfl) ?_))
  refine (geoBlocks_any g s i j _).mono ?_
  rintro e w2 ⟨rfl, hb2⟩
  rw [HN.out]
  have hs2 := hs1.below hb2 hs1.lt
  have HL2 := Lib.hid (HL1.out.trans (hb2.mono HL1.out.size))
  have HT2 := Lib.hid (HT1.out.below hb2 (Nat.le_refl _))
  clear hs1 HL1 HT1 hb2 HN
  obtain ⟨n, hn⟩ : ∃ n, n = 2 + j + g * s := ⟨_, rfl⟩
  have hn48 : n ≤ 2048 := by omega
  have hn58 : 58 ≤ n := by have := Nat.mul_le_mul h1 h3; omega
  have HNN := Lib.hid hn
  rw [← hn]
  clear hn
  have hmk := fun W => run_mkimage n hn48 W
  obtain ⟨q, hq⟩ : ∃ q, q = w2.heap.size := ⟨_, rfl⟩
  obtain ⟨W3, hW3⟩ : ∃ W3, W3 = ((w2.alloc (.cells (madeCells (Ks .u8 256 fun _ => 0).toArray (n * 256)) 32)).alloc (.cells #[.slice (some ⟨w2.heap.size, 0, none⟩) n n] 29)).alloc (.cells #[.int .i64 0] 48) := ⟨_, rfl⟩
  have hs3 := ((hs2.alloc (.cells (madeCells (Ks .u8 256 fun _ => 0).toArray (n * 256)) 32)).alloc (.cells #[.slice (some ⟨w2.heap.size, 0, none⟩) n n] 29)).alloc (.cells #[.int .i64 0] 48)
  have hi3 : At W3 (q + 1) 29 #[.slice (some ⟨q, 0, none⟩) n n] := by
    rw [hW3, hq]
    have := (At.new (w2.alloc (.cells (madeCells (Ks .u8 256 fun _ => 0).toArray (n * 256)) 32)) 29 #[.slice (some ⟨w2.heap.size, 0, none⟩) n n]).alloc (.cells #[.int .i64 0] 48)
    simp only [World.size_alloc] at this; exact this
  have he3 : At W3 (q + 1 + 1) 48 #[.int .i64 0] := by
    rw [hW3, hq]
    have := At.new ((w2.alloc (.cells (madeCells (Ks .u8 256 fun _ => 0).toArray (n * 256)) 32)).alloc (.cells #[.slice (some ⟨w2.heap.size, 0, none⟩) n n] 29)) 48 #[.int .i64 0]
    simp only [World.size_alloc] at this; exact this
  have ha3 : RArr W3 q 32 256 n (fun _ => Ks .u8 256 (fun _ => 0)) := by
    rw [hW3, hq]; exact ((image_made w2 n).alloc _).alloc _
  have hL3 : Below w.heap.size w W3 := by
    rw [hW3]; exact ((HL2.out.alloc HL2.out.size _).alloc (by have := HL2.out.size; simp; omega) _).alloc (by have := HL2.out.size; simp; omega) _
  have ht3 : Tab W3 := by rw [hW3]; exact ((HT2.out.alloc _).alloc _).alloc _
  have hqw : w.heap.size < q := by have := hs2.lt; omega
  have hg3 : At W3 w.heap.size 23 (gcells g s i j) := by rw [hW3]; exact hs3
  have hsz3 : q + 1 + 1 < W3.heap.size := he3.lt
  have HW3 := Lib.hid hW3
  have HQ := Lib.hid hq
  have ST3 : Hid (MkS w g s i j (q + 1 + 1) (q + 1) q n (fun _ _ => 0) W3) := ⟨hg3, hi3, he3, ha3, hL3⟩
  have HT3 := Lib.hid ht3
  clear hW3 hq hi3 he3 ha3 hL3 ht3 hg3 hs2 HL2 HT2
  go_wp2_with (first | (refine wp_loadAtG rfl 23 (.tmp 1) rfl _ _ _ rfl hs3 Tryz.underlying23 rfl (by kernel_rfl) ?_))
  rw [← HW3.out, ← HQ.out]
  clear hs3 HW3 HQ hmk
  refine (superWrite_any g s i j 0 (by decide) W3 HT3.out).mono ?_
  rintro e w4 ⟨rfl, hb4⟩
  rw [supE0 HM.out]
  have hn4 := Blk.new w4 32 256 (fun _ => 0)
  go_wp2_with (first | (refine wp_storeBlk rfl (.tmp 7) (.tmp 27) rfl w4.heap.size (supZ g s i j 0) _ rfl rfl hn4 ?_))
  intro w5 hB5 ho5
  obtain ⟨px, hpx⟩ : ∃ px, px = w4.heap.size := ⟨_, rfl⟩
  rw [← hpx] at hB5 ho5 hn4 ⊢
  have ord : MkO w.heap.size q (q + 1) (q + 1 + 1) px := ⟨hTl, hqw, by omega, by omega, by have := hb4.size; omega⟩
  have st5 : MkT w g s i j (q + 1 + 1) (q + 1) px q n (supZ g s i j 0) (fun _ _ => 0) w5 := by
    have s3 := ST3.out
    have b4 : Below W3.heap.size W3 w4 := hb4
    have s4 : MkT w g s i j (q + 1 + 1) (q + 1) px q n (fun _ => 0) (fun _ _ => 0) (w4.alloc (.cells (Ks .u8 256 fun _ => 0).toArray 32)) :=
      ⟨(s3.g.below b4 s3.g.lt).alloc _, (s3.i.below b4 s3.i.lt).alloc _, (s3.e.below b4 s3.e.lt).alloc _, (s3.a.below b4).alloc _, hn4, (HT3.out.below b4 (Nat.le_refl _)).alloc _, (s3.bel.trans (b4.mono s3.bel.size)).alloc (by have := s3.bel.size; have := b4.size; omega) _⟩
    exact s4.store ord hB5 ho5
  have HO := Lib.hid ord
  clear hn4 hB5 ho5 hpx hb4 ST3 HT3 hsz3
  clear w4 W3 w2 w1
  have hx5 := st5.x
  have ST5 := Lib.hid st5
  clear ord st5
  go_wp2_with (first | (refine wp_loadBlkG rfl (.tmp 7) rfl px (supZ g s i j 0) rfl hx5 ?_))
  refine (mkWrite_any (q + 1 + 1) (q + 1) q n (fun _ _ => 0) 0 (by omega) hn48 (supZ g s i j 0) _ ST5.out.i ST5.out.a).mono ?_
  rintro e w6 ⟨⟨_, rfl⟩, hA6, hw6⟩
  have ST6 := Lib.hid (ST5.out.put HO.out (im' := fun b => if b = 0 then supZ g s i j 0 else fun _ => 0) hA6 hw6)
  clear hx5 ST5 hA6 hw6
  go_wp2_with fail
  refine Mv.wp_region_mc (MkM w g s i j (q + 1 + 1) (q + 1) px q n (supZ g s i j 0) (descZ g s i j g (dkB g s i j) (dkI i) dkD) (fun b => if b = 0 then supZ g s i j 0 else fun _ => 0) g (df (dkB g s i j) (dkI i) dkD)) ⟨0, undef⟩ (by kernel_rfl) (by kernel_rfl) (by kernel_rfl) ⟨ST6.out.below ((Below.refl _ _).drew), fun h => by cases h⟩ ?_
  clear ST6
  intro hne
  (refine Mv.lin_take 2 (by kernel_rfl) ?_; simp only [List.take_succ_cons, List.take_zero, List.drop_succ_cons, List.drop_zero])
  refine q_load rfl 23 (.tmp 1) rfl _ _ rfl (gcells g s i j).toList _ (fun W h => by obtain ⟨_, h⟩ := h; exact h.m.g.range) Tryz.underlying23 rfl (by kernel_rfl) ?_
  refine wpQuiet_frame (by simp only [Act.put, List.setIfInBounds_toArray, List.set_cons_succ, List.set_cons_zero]; exact rfl) ?_
  refine q_load rfl 23 (.tmp 1) rfl _ _ rfl (gcells g s i j).toList _ (fun W h => by obtain ⟨_, h⟩ := h; exact h.m.g.range) Tryz.underlying23 rfl (by kernel_rfl) ?_
  refine wpQuiet_frame (by simp only [Act.put, List.setIfInBounds_toArray, List.set_cons_succ, List.set_cons_zero]; exact rfl) ?_
  refine wpQuiet_nil ?_
  refine Mv.lin_callE rfl rfl 67 #[gval g s i j] (fun W => by kernel_rfl) (fun W hW => ?_)
  refine (mkDescs_any g s i j HM.out W).mono ?_
  rintro e w7 ⟨v, rfl, hb7, hM7⟩
  rw [Int.toNat_natCast] at hM7
  obtain ⟨a7, cap7, rfl⟩ := hM7.form
  refine ⟨_, ⟨1, .slice a7 g cap7⟩, rfl, ⟨hW.m.below hb7, fun _ => ⟨a7, cap7, rfl, hM7.row (df_len _ _ _)⟩⟩, ?_⟩
  clear hW hb7 hM7
  refine Mv.frame (by simp only [Act.put, List.setIfInBounds_toArray, List.set_cons_succ, List.set_cons_zero]; exact rfl) ?_
  refine Mv.lin_call rfl rfl 66 #[gval g s i j, .slice a7 g cap7] (.tuple #[bval (descZ g s i j g (dkB g s i j) (dkI i) dkD), .int .i64 0]) ⟨2, undef⟩ (fun W => by kernel_rfl) (fun W hW => ?c0) ?_
  case c0 =>
    obtain ⟨a, cap, he, hr⟩ := hW.d rfl
    injection he with he1 he2 he3
    subst he1 he3
    refine (superWriteDescs_any g s i j a7 g cap7 (dkB g s i j) (dkI i) dkD (by omega) W hW.m.t hr).mono ?_
    rintro e w8 ⟨rfl, hb8⟩
    rw [descE0 HM.out]
    exact ⟨rfl, hW.m.below hb8, fun h => by cases h⟩
  refine Mv.frame (by simp only [Act.put, List.setIfInBounds_toArray, List.set_cons_succ, List.set_cons_zero]; exact rfl) ?_
  (refine Mv.lin_take 3 (by kernel_rfl) ?_; simp only [List.take_succ_cons, List.take_zero, List.drop_succ_cons, List.drop_zero])
  first | go_big_quiet_skip | (go_big_quiet_want; go_big_quiet_op; go_big_quiet_on)
  first | go_big_quiet_skip | (go_big_quiet_want; go_big_quiet_op; go_big_quiet_on)
  first | go_big_quiet_skip | (go_big_quiet_want; go_big_quiet_op; go_big_quiet_on)
  refine wpQuiet_nil ?_
  refine Mv.lin_storeRow rfl 32 (.tmp 7) (.tmp 38) rfl px (Ks .u8 256 (descZ g s i j g (dkB g s i j) (dkI i) dkD)).toArray 32 rfl rfl (info_block' _) (Ks_one _ _ _) ⟨3, undef⟩ (fun W hW => ⟨⟨_, hW.m.x, by rw [Ks_size, Ks_size]⟩, hW.m.store HO.out (hW.m.x.setRow _) (only_setRow W px _ hW.m.x (by rw [Ks_size, Ks_size])), fun h => by cases h⟩) ?_
  refine Mv.frame (by simp only [Act.put]; exact rfl) ?_
  (refine Mv.lin_take 1 (by kernel_rfl) ?_; simp only [List.take_succ_cons, List.take_zero, List.drop_succ_cons, List.drop_zero])
  first | go_big_quiet_skip | (go_big_quiet_want; go_big_quiet_op; go_big_quiet_on)
  refine wpQuiet_nil ?_
  refine Mv.wpLin_nil ?_
  intro w9 h9
  have st9 := h9.m
  rw [if_pos rfl] at st9
  have hx9 := st9.x
  have ST9 := Lib.hid st9
  clear st9 h9 hne
  go_wp2_with (first | (refine wp_loadBlkG rfl (.tmp 7) rfl px (descZ g s i j g (dkB g s i j) (dkI i) dkD) rfl hx9 ?_))
  refine (mkWrite_anyI (q + 1 + 1) (q + 1) q n _ 1 _ rfl (by omega) hn48 (descZ g s i j g (dkB g s i j) (dkI i) dkD) _ ST9.out.i ST9.out.a).mono ?_
  rintro e w10 ⟨⟨_, rfl⟩, hA10, hw10⟩
  have st10 := ST9.out.put HO.out (im' := fun b => if b = 1 then descZ g s i j g (dkB g s i j) (dkI i) dkD else if b = 0 then supZ g s i j 0 else fun _ => 0) hA10 hw10
  have hx10 := st10.x
  have ST10 := Lib.hid st10
  clear hx9 ST9 hA10 hw10 st10
  go_wp2_with fail
  refine (writeHead_any 1 0 w10 (by decide) (by decide)).mono ?_
  rintro e w11 ⟨rfl, hb11⟩
  rw [show errOf (headOk 1 0) 2 = 0 by decide]
  have st11 := ST10.out.below hb11
  have hx11 := st11.x
  have ST11 := Lib.hid st11
  clear hx10 ST10 hb11 st11
  go_wp2_with (first | (refine wp_storeBlk rfl (.tmp 7) (.tmp 47) rfl px (headZ 1 0) _ rfl rfl hx11 ?_))
  intro w12 hB12 ho12
  have ST12 := Lib.hid (ST11.out.store HO.out hB12 ho12)
  clear ST11 hx11 ho12
  go_wp2_with (first | (refine wp_loadBlkG rfl (.tmp 7) rfl px (headZ 1 0) rfl hB12 ?_))
  refine (mkWrite_anyI (q + 1 + 1) (q + 1) q n _ 2 _ rfl (by omega) hn48 (headZ 1 0) _ ST12.out.i ST12.out.a).mono ?_
  rintro e w13 ⟨⟨_, rfl⟩, hA13, hw13⟩
  have st13 := (ST12.out.put HO.out (im' := fun b => if b = 2 then headZ 1 0 else if b = 1 then descZ g s i j g (dkB g s i j) (dkI i) dkD else if b = 0 then supZ g s i j 0 else fun _ => 0) hA13 hw13).congr (im' := mkU g s i j (2 + j + 0 * s)) (fun b _ => by rw [Nat.zero_mul, Nat.add_zero]; exact mkU_start h8 b)
  have c0 : w13.cell? ⟨w.heap.size, 0, none⟩ = some (.int .i64 (g : Int)) := st13.g.cell (i := 0) rfl
  have ST13 := Lib.hid st13
  clear ST12 hB12 hA13 hw13 st13
  go_wp2_with fail
  go_loopw [9, 10, 11, 12, 55] (fun _ _ _ _ u wr => ∃ k : Nat, k ≤ g ∧ u = .int .i64 (k : Int) ∧ MkT w g s i j (q + 1 + 1) (q + 1) px q n (headZ 1 0) (mkU g s i j (2 + j + k * s)) wr) (fun _ _ _ _ u _ => g - (intOf u).toNat)
  case atStart => exact ⟨0, by omega, rfl, ST13.out⟩
  case round =>
    clear ST13 c0
    obtain ⟨k, hk, rfl, st⟩ := hrel
    by_cases hlt : k < g
    · have hlt' : (k : Int) < (g : Int) := by omega
      have hg := st.g
      have ST := Lib.hid st
      clear st
      go_wp2_with (first | (refine wp_loadAtG rfl 23 (.tmp 1) rfl _ _ _ rfl hg Tryz.underlying23 rfl (by kernel_rfl) ?_))
      have hks : k * s + s ≤ g * s := by have := Nat.mul_le_mul_right s (show k + 1 ≤ g by omega); rw [Nat.succ_mul] at this; exact this
      obtain ⟨P, hP⟩ : ∃ P, P = 2 + j + k * s := ⟨_, rfl⟩
      have hP1 : P + 1 < n := by have := HNN.out; omega
      have HR : Hid (∀ b, (if b = P + 1 then bZ (mapB (if k = 0 then 1 else 0) i) else if b = P then bZ (mapB (2 + i / 4) s) else mkU g s i j P b) = mkU g s i j (2 + j + (k + 1) * s) b) := fun b => by rw [hP]; exact mkU_round h3 h8 b
      have HG : Hid (isGr g s i j k = true) := by show _ = _; unfold isGr; rw [HM.out]; simp; omega
      have HS : Hid (stGr g s i j k = (P : Int)) := by show _ = _; unfold stGr; rw [HG.out, hP]; simp
      have ST' : Hid (MkT w g s i j (q + 1 + 1) (q + 1) px q n (headZ 1 0) (mkU g s i j P) wr) := by rw [hP]; exact ST.out
      clear ST hP hks
      have i0 : (0 : Int) ≤ (i : Int) := by omega
      have i1 : (i : Int) ≤ 64 := by omega
      have P0 : (0 : Int) ≤ (P : Int) := by omega
      have P1 : (P : Int) ≤ 2048 := by omega
      refine (geoStart_any g s i j k _).mono ?_
      rintro e w20 ⟨rfl, hb20⟩
      rw [HG.out, HS.out]
      have ST20 := Lib.hid (ST'.out.below hb20)
      have c1 : w20.cell? ⟨w.heap.size, 1, none⟩ = some (.int .i64 (s : Int)) := ST20.out.g.cell (i := 1) rfl
      have c2 : w20.cell? ⟨w.heap.size, 2, none⟩ = some (.int .i64 (i : Int)) := ST20.out.g.cell (i := 2) rfl
      clear hg ST' hb20 HS HG
      go_wp2_with fail
      refine (bitmap_anyI (2 + i / 4) s _ _ (by omega) rfl (by omega) (by omega) _).mono ?_
      rintro e w21 ⟨rfl, hb21⟩
      have ST21 := Lib.hid (ST20.out.below hb21)
      clear ST20 hb21 c1 c2
      go_wp2_with fail
      refine (mkWrite_anyI (q + 1 + 1) (q + 1) q n _ P _ rfl (by omega) hn48 (bZ (mapB (2 + i / 4) s)) _ ST21.out.i ST21.out.a).mono ?_
      rintro e w22 ⟨⟨_, rfl⟩, hA22, hw22⟩
      have ST22 := Lib.hid (ST21.out.put HO.out (im' := fun b => if b = P then bZ (mapB (2 + i / 4) s) else mkU g s i j P b) hA22 hw22)
      clear ST21 hA22 hw22
      have c2 : w22.cell? ⟨w.heap.size, 2, none⟩ = some (.int .i64 (i : Int)) := ST22.out.g.cell (i := 2) rfl
      obtain ⟨u, hu, hui⟩ : ∃ u, u = (if k = 0 then 1 else 0) ∧ u ≤ i := ⟨_, rfl, by split <;> omega⟩
      rw [← hu] at HR
      have HU := Lib.hid hu
      clear hu
      by_cases hk0 : k = 0
      · have hkz : ((k : Int) == 0) = true := by rw [beq_iff_eq]; omega
        obtain rfl : u = 1 := by rw [HU.out, if_pos hk0]
        clear hk0
        go_wp2_with fail
        refine (bitmap_anyI 1 i _ _ rfl rfl (by omega) (by omega) _).mono ?_
        rintro e w23 ⟨rfl, hb23⟩
        have ST23 := Lib.hid (ST22.out.below hb23)
        clear ST22 hb23 c2
        go_wp2_with fail
        refine (mkWrite_anyI (q + 1 + 1) (q + 1) q n _ (P + 1) _ rfl (by omega) hn48 (bZ (mapB 1 i)) _ ST23.out.i ST23.out.a).mono ?_
        rintro e w24 ⟨⟨_, rfl⟩, hA24, hw24⟩
        have ST24 := Lib.hid ((ST23.out.put HO.out (im' := fun b => if b = P + 1 then bZ (mapB 1 i) else if b = P then bZ (mapB (2 + i / 4) s) else mkU g s i j P b) hA24 hw24).congr fun b _ => HR.out b)
        clear ST23 hA24 hw24
        go_wp2_with fail
        go_roundw
        case rel => first | exact ⟨k + 1, by omega, by go_num, ST24.out⟩ | exact ⟨k + 1, by omega, rfl, ST24.out⟩
        case measure => simp [intOf]; omega
      · have hkz : ((k : Int) == 0) = false := by rw [beq_eq_false_iff_ne]; omega
        obtain rfl : u = 0 := by rw [HU.out, if_neg hk0]
        clear hk0
        go_wp2_with fail
        refine (bitmap_anyI 0 i _ _ rfl rfl (by omega) (by omega) _).mono ?_
        rintro e w23 ⟨rfl, hb23⟩
        have ST23 := Lib.hid (ST22.out.below hb23)
        clear ST22 hb23 c2
        go_wp2_with fail
        refine (mkWrite_anyI (q + 1 + 1) (q + 1) q n _ (P + 1) _ rfl (by omega) hn48 (bZ (mapB 0 i)) _ ST23.out.i ST23.out.a).mono ?_
        rintro e w24 ⟨⟨_, rfl⟩, hA24, hw24⟩
        have ST24 := Lib.hid ((ST23.out.put HO.out (im' := fun b => if b = P + 1 then bZ (mapB 0 i) else if b = P then bZ (mapB (2 + i / 4) s) else mkU g s i j P b) hA24 hw24).congr fun b _ => HR.out b)
        clear ST23 hA24 hw24
        go_wp2_with fail
        go_roundw
        case rel => first | exact ⟨k + 1, by omega, by go_num, ST24.out⟩ | exact ⟨k + 1, by omega, rfl, ST24.out⟩
        case measure => simp [intOf]; omega
    · obtain rfl : k = g := by omega
      have hg := st.g
      have ST := Lib.hid st
      clear st
      go_wp2_with (first | (refine wp_loadAtG rfl 23 (.tmp 1) rfl _ _ _ rfl hg Tryz.underlying23 rfl (by kernel_rfl) ?_))
      refine (geoInode1_any k s i j HM.out _).mono ?_
      rintro e w20 ⟨rfl, hb20⟩
      have ST20 := Lib.hid (ST.out.below hb20)
      have hx20 := ST20.out.x
      clear ST hg hb20
      go_wp2_with (first | (refine wp_storeBlk rfl (.tmp 7) (.tmp 91) rfl px (fun _ => 0) _ rfl rfl hx20 ?_))
      intro w21 hB21 ho21
      have ST21 := Lib.hid (ST20.out.store HO.out hB21 ho21)
      clear ST20 hx20 ho21
      go_wp2_with fail
      refine (inoPut_yes px 32 (fun _ => 0) (fun _ => ⟨Int.le_refl 0, (by decide : (0 : Int) < 256)⟩) 0 rootI rootIsOk _ hB21 rootOk).mono ?_
      rintro e w22 ⟨rfl, hB22, hg22⟩
      have hB22' : Blk w22 px 32 256 rootZ := hB22
      have ST22 := Lib.hid (ST21.out.grown HO.out hB22' hg22)
      clear ST21 hB21 hB22 hg22
      have hjn : 2 + j + 2 < n := by have := HNN.out; have := Nat.mul_le_mul h1 h3; omega
      go_wp2_with (first | (refine wp_loadBlkG rfl (.tmp 7) rfl px rootZ rfl hB22' ?_))
      refine (mkWrite_anyI (q + 1 + 1) (q + 1) q n _ (2 + j + 2) _ (by omega) hjn hn48 rootZ _ ST22.out.i ST22.out.a).mono ?_
      rintro e w23 ⟨⟨_, rfl⟩, hA23, hw23⟩
      have st23 := ST22.out.put HO.out (im' := fun b => if b = 2 + j + 2 then rootZ else mkU k s i j (2 + j + k * s) b) hA23 hw23
      have ci : w23.cell? ⟨q + 1, 0, none⟩ = some (.slice (some ⟨q, 0, none⟩) n n) := st23.i.cell (i := 0) rfl
      have ce : w23.cell? ⟨q + 1 + 1, 0, none⟩ = some (.int .i64 0) := st23.e.cell (i := 0) rfl
      have HF : Hid (MkImg w k s i j q w23) := ⟨by omega, by
        have := st23.a
        rw [HNN.out] at this
        exact this.congr fun b hb => by rw [mkB_end hb], st23.bel⟩
      clear ST22 hB22' hA23 hw23 st23
      go_wp2_with fail
      go_ret2
      exact ⟨q, by rw [← HNN.out]; rfl, HF.out⟩
/-- no geometry, no image -/
theorem make_no (G S I J : Int) (hm : mayG G S I J = false) (w : World) :
    Calls Tryz.prog 34 #[gval G S I J] w fun e w' => e = .returned (.tuple #[.slice none 0 0, .int .i64 50]) ∧ Below w.heap.size w w' := by
  have hs0 := At.new w 23 (gcells G S I J)
  have HL0 : Hid (Below w.heap.size w (w.alloc (.cells (gcells G S I J) 23))) := (Below.refl _ _).alloc (Nat.le_refl _) _
  have HM := Lib.hid hm
  clear hm
  go_enter Tryz.func34, Tryz.ntmps34
  go_wp2_with (first | (refine wp_loadAtG rfl 23 (.tmp 1) rfl _ _ _ rfl hs0 Tryz.underlying23 rfl (by kernel_rfl) ?_))
  refine (geoMay_any G S I J _).mono ?_
  rintro e w1 ⟨rfl, hb1⟩
  rw [HM.out]
  have HL1 := Lib.hid (HL0.out.trans (hb1.mono HL0.out.size))
  clear hs0 HL0 hb1
  go_wp2_with fail
  go_ret2
  exact ⟨rfl, HL1.out⟩
end Go.Proofs.YtnbmmhoofilmfaaGreatDoor
