/- quernlaw06.awake. -/
import Derived.Test.YtbbcckopkbiojaaDoorU6g
namespace Go.Proofs.YtbbcckopkbiojaaDoor
open Go.RowKit
set_option linter.unusedVariables false

def sz : Nat → Int := supZ 2 16 8 40 7
def a6b : Nat → Int := fun _ => 12
def a6i : Nat → Int := fun i => if i = 0 then 7 else 8
def a6d : Nat → Int := fun i => if i = 0 then 1 else 0
def dz : Nat → Int := descZ 2 16 8 40 2 a6b a6i a6d
theorem supZ_byt (G S I J O : Int) : Byt (supZ G S I J O) := by
  unfold supZ; split
  · exact sealZ_byt (hz_byt _)
  · intro i; show (0 : Int) ≤ 0 ∧ (0 : Int) < 256; decide
theorem descZ_byt (G S I J : Int) (n : Nat) (b i d : Nat → Int) : Byt (descZ G S I J n b i d) := by
  unfold descZ; split
  · exact sealZ_byt (hz_byt _)
  · intro i; show (0 : Int) ≤ 0 ∧ (0 : Int) < 256; decide
theorem supZ_low {G S I J O : Int} (h : supOk G S I J O = true) (i : Nat) (hi : i < 252) : supZ G S I J O i = hz (supH G S I J O) i := by
  unfold supZ; rw [if_pos h, sealZ_low _ _ hi]
theorem descZ_low {G S I J : Int} {n : Nat} {b i d : Nat → Int} (h : descOk G S I J n b i d = true) (k : Nat) (hk : k < 252) : descZ G S I J n b i d k = hz (dH b i d n) k := by
  unfold descZ; rw [if_pos h, sealZ_low _ _ hk]
theorem sz_at : sz 0 = 81 ∧ sz 3 = 49 ∧ sz 7 = 1 ∧ sz 10 = 16 ∧ sz 16 = 7 := by
  have h : supOk 2 16 8 40 7 = true := by decide
  unfold sz
  rw [supZ_low h _ (by omega), supZ_low h _ (by omega), supZ_low h _ (by omega), supZ_low h _ (by omega), supZ_low h _ (by omega)]
  decide
theorem dz_at : dz 2 = 7 ∧ dz 8 = 12 := by
  have h : descOk 2 16 8 40 2 a6b a6i a6d = true := by decide
  unfold dz
  rw [descZ_low h _ (by omega), descZ_low h _ (by omega)]
  decide
theorem sz_sum : g32 sz 252 = crcZ sz 252 := by
  have h : supOk 2 16 8 40 7 = true := by decide
  have := sumB_seal (hz (supH 2 16 8 40 7))
  unfold sumB at this
  rw [beq_iff_eq] at this
  have e : sz = sealZ (hz (supH 2 16 8 40 7)) := by unfold sz supZ; rw [if_pos h]
  rw [e]; exact this
theorem run_desc2 (a b c d e f : Int) (w : World) : (Instr.buildSlice 27 2 #[(0, dval a b c), (1, dval d e f)]).run Tryd.prog w = .ok (.slice (some ⟨w.heap.size, 0, none⟩) 2 2) (w.alloc (.cells #[.int .i64 a, .int .i64 b, .int .i64 c, .int .i64 d, .int .i64 e, .int .i64 f] 48)) := by kernel_rfl
theorem desc2_row (w : World) (b i d : Nat → Int) : RRow (w.alloc (.cells #[.int .i64 (b 0), .int .i64 (i 0), .int .i64 (d 0), .int .i64 (b 1), .int .i64 (i 1), .int .i64 (d 1)] 48)) (some ⟨w.heap.size, 0, none⟩) 3 2 (df b i d) :=
  .inr ⟨_, _, rfl, fun k hk j v hj => by
    refine cell_of_heap (heap_alloc_new w _) ?_
    have hj3 : j < 3 := (List.getElem?_eq_some_iff.1 hj).1
    rw [← hj]
    obtain rfl | rfl : k = 0 ∨ k = 1 := by omega
    all_goals (obtain rfl | rfl | rfl : j = 0 ∨ j = 1 ∨ j = 2 := by omega)
    all_goals rfl⟩
theorem read_zero : readE (fun _ => 0) = 60 := by
  have : readA (fun _ => 0) = false := by unfold readA; rw [show (g32 (fun _ => 0) 0 == 827216465) = false by decide]; rfl
  unfold readE; rw [this]; rfl
theorem readV_zero : readV (fun _ => 0) = sval 0 0 0 0 0 := readV_no (.inl read_zero)

structure A6 (w : World) (g0 g1 : Nat) (W : World) : Prop where
  s : At W g0 23 (gcells 2 16 8 40)
  b : Blk W g1 29 256 sz
  t : Tab W
  bel : Below w.heap.size w W
theorem A6.below {w : World} {g0 g1 : Nat} {W W' : World} (h : A6 w g0 g1 W) (hb : Below W.heap.size W W') : A6 w g0 g1 W' := ⟨h.s.below hb h.s.lt, h.b.below hb h.b.lt, h.t.below hb (Nat.le_refl _), h.bel.trans (hb.mono h.bel.size)⟩
theorem A6.only {w : World} {g0 g1 : Nat} {W W' : World} {g : Nat} (h : A6 w g0 g1 W) (hb : Only g W W') (h1 : w.heap.size ≤ g) (hg0 : g0 ≠ g) (hg1 : g1 ≠ g) (hT : 0 < w.heap.size) : A6 w g0 g1 W' :=
  ⟨h.s.only hb hg0, h.b.only hb hg1, h.t.only hb (by omega), h.bel.trans (hb.below h1)⟩

set_option maxRecDepth 100000 in
set_option maxHeartbeats 4000000 in
theorem awake6 (w : World) (hT : Tab w) : Calls Tryd.prog 20 #[] w fun e w' => e = .returned (.bool true) ∧ Below w.heap.size w w' := by
  have hal := zero_block
  have hals := zero_super
  have halg := zero_geo
  have hbs := fun O W => build_super 2 16 8 40 O W
  have hTl := hT.lt
  have hs0 := At.new w 23 (gcells 2 16 8 40)
  go_enter Tryd.func20, Tryd.ntmps20
  go_wp2_with (first | (refine wp_loadAtG rfl 23 (.tmp 1) rfl _ _ _ rfl hs0 Tryd.underlying23 rfl (by kernel_rfl) ?_))
  refine (superWrite_any 2 16 8 40 7 (by decide) _ (hT.alloc _)).mono ?_
  rintro e w1 ⟨rfl, hb1⟩
  rw [show supE 2 16 8 40 7 = 0 by decide]
  have hs1 := hs0.below hb1 hs0.lt
  have hL1 : Below w.heap.size w w1 := ((Below.refl _ _).alloc (Nat.le_refl _) _).trans (hb1.mono (by simp))
  have hT1 := (hT.alloc (.cells (gcells 2 16 8 40) 23)).below hb1 (Nat.le_refl _)
  have hlt1 := hs1.lt
  have hn1 := Blk.new w1 29 256 (fun _ => 0)
  have HS1 := Lib.hid hs1
  have hsA := hs1.alloc (.cells (Ks .u8 256 (fun _ => 0)).toArray 29)
  clear hs0 hb1 hs1 hT
  go_wp2_with (first | (refine wp_storeBlk rfl (.tmp 2) (.tmp 17) rfl w1.heap.size sz _ rfl rfl hn1 ?_))
  intro w2 hB2 ho2
  obtain ⟨g1, hg1⟩ : ∃ g1, w1.heap.size = g1 := ⟨_, rfl⟩
  rw [hg1] at hn1 hlt1 hB2 ho2 ⊢
  have st2 : A6 w w.heap.size g1 w2 := ⟨hsA.only ho2 (by omega), hB2, (hT1.alloc _).only ho2 (by omega), (hL1.alloc hL1.size _).trans (ho2.below (by omega))⟩
  have hg1' : w.heap.size + 1 ≤ g1 := by omega
  clear hn1 HS1 hsA hT1 hL1 hB2 ho2 hg1 hlt1
  have hs2 := st2.s
  go_wp2_with (first | (refine wp_loadAtG rfl 23 (.tmp 1) rfl _ _ _ rfl hs2 Tryd.underlying23 rfl (by kernel_rfl) ?_))
  refine (superWrite_any 2 16 8 40 17 (by decide) _ st2.t).mono ?_
  rintro e w3 ⟨rfl, hb3⟩
  rw [show supE 2 16 8 40 17 = 2 by decide]
  have st3 := st2.below hb3
  have hn3 := Blk.new w3 29 256 (fun _ => 0)
  have hlt3 := st3.b.lt
  clear st2 hs2 hb3
  go_wp2_with (first | (refine wp_storeBlk rfl (.tmp 4) (.tmp 23) rfl w3.heap.size (supZ 2 16 8 40 17) _ rfl rfl hn3 ?_))
  intro w4 hB4 ho4
  have st4 : A6 w w.heap.size g1 w4 := (st3.below ((Below.refl _ _).alloc (Nat.le_refl _) _)).only ho4 (by omega) (by omega) (by omega) hTl
  have hs4 := st4.s
  clear st3 hn3 hlt3 hB4 ho4
  have hbd := fun W => run_desc2 12 7 1 12 8 0 W
  have hzd := zero_desc
  go_wp2_with (first | (refine wp_loadAtG rfl 23 (.tmp 1) rfl _ _ _ rfl hs4 Tryd.underlying23 rfl (by kernel_rfl) ?_))
  have hrow := desc2_row w4 a6b a6i a6d
  refine (superWriteDescs_any 2 16 8 40 _ 2 2 a6b a6i a6d (by decide) _ (st4.t.alloc _) hrow).mono ?_
  rintro e w5 ⟨rfl, hb5⟩
  rw [show descE 2 16 8 40 2 a6b a6i a6d = 0 by decide]
  have st5 : A6 w w.heap.size g1 w5 := (st4.below ((Below.refl _ _).alloc (Nat.le_refl _) _)).below hb5
  have hn5 := Blk.new w5 29 256 (fun _ => 0)
  have hlt5 := st5.b.lt
  clear st4 hs4 hb5 hrow hbd
  go_wp2_with (first | (refine wp_storeBlk rfl (.tmp 6) (.tmp 31) rfl w5.heap.size dz _ rfl rfl hn5 ?_))
  intro w6 hB6 ho6
  obtain ⟨g2, hg2⟩ : ∃ g2, w5.heap.size = g2 := ⟨_, rfl⟩
  rw [hg2] at hB6 hlt5 hn5 ho6 ⊢
  have st6 : A6 w w.heap.size g1 w6 := (st5.below ((Below.refl _ _).alloc (Nat.le_refl _) _)).only ho6 (by omega) (by omega) (by omega) hTl
  clear st5 hn5 ho6 hg2 hzd
  go_wp2_with fail
  refine (superRead_any (fun _ => 0) (fun _ => ⟨Int.le_refl 0, (by decide : (0 : Int) < 256)⟩) _ st6.t).mono ?_
  rintro e w7 ⟨rfl, hb7⟩
  rw [read_zero, readV_zero]
  have st7 := st6.below hb7
  have hB7 := hB6.below hb7 hB6.lt
  clear st6 hB6 hb7
  have hsa := fun W => run_sliceBlkAll g1 0 W
  have hsb := fun W => run_sliceBlk g1 0 0 252 0 252 rfl rfl (by omega) (by omega) (by omega) W
  have hsz1 := st7.b.lt
  have hsz2 := hB7.lt
  go_wp2_with fail
  have hszb : Byt sz := supZ_byt _ _ _ _ _
  obtain ⟨W8, hW8⟩ : ∃ W8, W8 = w7.alloc (.cells (scells 0 0 0 0 0) 26) := ⟨_, rfl⟩
  have st8 : A6 w w.heap.size g1 W8 := by rw [hW8]; exact st7.below ((Below.refl _ _).alloc (Nat.le_refl _) _)
  have hB8 : Blk W8 g2 29 256 dz := by rw [hW8]; exact hB7.alloc _
  rw [← hW8]
  clear hW8 st7 hB7 hsz1 hsz2
  have hgt := get32_yes g1 0 256 256 252 sz W8 (by omega) (by omega) (by omega) st8.b.seg hszb
  rw [show (252 : Int).toNat = 252 from rfl, sz_sum] at hgt
  refine hgt.mono ?_
  rintro e wx ⟨rfl, rfl⟩
  clear hgt
  obtain ⟨z0, z3, z7, z10, z16⟩ := sz_at
  obtain ⟨d2, d8⟩ := dz_at
  have hcell : ∀ i v, i < 256 → sz i = v → W8.cell? ⟨g1, i, none⟩ = some (.int .u8 v) := fun i v hi hv => by have := st8.b.seg i hi; rw [Nat.zero_add, hv] at this; exact this
  have c0 := hcell 0 81 (by omega) z0
  have c3 := hcell 3 49 (by omega) z3
  have c7 := hcell 7 1 (by omega) z7
  have c10 := hcell 10 16 (by omega) z10
  have c16 := hcell 16 7 (by omega) z16
  clear hcell z0 z3 z7 z10 z16
  have hcb := crcZ_bd sz 252
  have HC : Hid (((4294967295 - foldP 4294967295 (fun _ => 252) (fun _ => sz) 1 : Nat) : Int) = crcZ sz 252) := rfl
  generalize crcZ sz 252 = cc at *
  go_wp2_with fail
  have hP : Pieces (W8.alloc (.cells #[.slice (some ⟨g1, 0, none⟩) 252 256] 65)) (some ⟨W8.heap.size, 0, none⟩) 1 (fun _ => 252) (fun _ => sz) := ⟨fun k hk => by
    obtain rfl : k = 0 := by omega
    exact ⟨_, _, rfl, _, _, cell_of_heap (heap_alloc_new W8 _) rfl, .inr ⟨g1, 0, rfl, ((st8.b.alloc _).seg.take 252 (by omega))⟩, by omega⟩⟩
  refine (crcSum_any _ 1 1 _ _ _ (by omega) hP (fun _ => hszb) (st8.t.alloc _)).mono ?_
  rintro e wx ⟨rfl, rfl⟩
  rw [HC.out]
  clear hP HC
  have hd : ∀ i v, i < 256 → dz i = v → (W8.alloc (.cells #[.slice (some ⟨g1, 0, none⟩) 252 256] 65)).cell? ⟨g2, i, none⟩ = some (.int .u8 v) := fun i v hi hv => by have := (hB8.alloc (.cells #[.slice (some ⟨g1, 0, none⟩) 252 256] 65)).seg i hi; rw [Nat.zero_add, hv] at this; exact this
  have e2 := hd 2 7 (by omega) d2
  have e8 := hd 8 12 (by omega) d8
  clear hd d2 d8 c0 c3 c7 c10 c16
  have hfin : Hid (Below w.heap.size w (W8.alloc (.cells #[.slice (some ⟨g1, 0, none⟩) 252 256] 65))) := st8.bel.alloc st8.bel.size _
  clear st8 hB8
  go_wp2_with fail
  go_ret
  exact ⟨rfl, hfin.out⟩
end Go.Proofs.YtbbcckopkbiojaaDoor
