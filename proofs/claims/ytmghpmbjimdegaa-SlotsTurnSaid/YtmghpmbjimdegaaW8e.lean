/- The walk of the law SlotsTurn. -/
import Derived.Test.YtmghpmbjimdegaaR8d
import Derived.Test.YtmghpmbjimdegaaCopy2
namespace Go.Proofs.Ytmghpmbjimdegaa
open Go.RowKit
set_option linter.unusedVariables false

structure TuS (w : World) (z : Nat → Int) (gx : Nat) (zx : Nat → Int) (gy : Nat) (zy : Nat → Int) (W : World) : Prop where
  b : Blk W w.heap.size 23 256 z
  x : Blk W gx 23 256 zx
  y : Blk W gy 23 256 zy
  bel : Below w.heap.size w W
  gb : w.heap.size < gx ∧ w.heap.size < gy ∧ gx ≠ gy
theorem TuS.below {w : World} {z : Nat → Int} {gx : Nat} {zx : Nat → Int} {gy : Nat} {zy : Nat → Int} {W W' : World} (h : TuS w z gx zx gy zy W) (hb : Below W.heap.size W W') : TuS w z gx zx gy zy W' :=
  ⟨h.b.below hb h.b.lt, h.x.below hb h.x.lt, h.y.below hb h.y.lt, h.bel.trans (hb.mono h.bel.size), h.gb⟩
theorem TuS.only {w : World} {z : Nat → Int} {gx : Nat} {zx : Nat → Int} {gy : Nat} {zy : Nat → Int} {W W' : World} {g : Nat} (h : TuS w z gx zx gy zy W) (ho : Only g W W') (h1 : w.heap.size < g) (h2 : g ≠ gx) (h3 : g ≠ gy) : TuS w z gx zx gy zy W' :=
  ⟨h.b.only ho (by omega), h.x.only ho (by omega), h.y.only ho (by omega), h.bel.trans (ho.below (by omega)), h.gb⟩
theorem TuS.putx {w : World} {z : Nat → Int} {gx : Nat} {zx zd : Nat → Int} {gy : Nat} {zy : Nat → Int} {W W' : World} (h : TuS w z gx zx gy zy W) (hB : Blk W' gx 23 256 zd) (hg : W.grownBy W' (some gx)) : TuS w z gx zd gy zy W' :=
  ⟨(hg.block _ h.b.lt (by have := h.gb; simp; omega)).trans h.b, hB, (hg.block _ h.y.lt (by have := h.gb; simp; omega)).trans h.y, h.bel.grown hg h.bel.size (fun k e => by cases e; exact Nat.le_of_lt h.gb.1), h.gb⟩
theorem TuS.puty {w : World} {z : Nat → Int} {gx : Nat} {zx zd : Nat → Int} {gy : Nat} {zy : Nat → Int} {W W' : World} (h : TuS w z gx zx gy zy W) (hB : Blk W' gy 23 256 zd) (hg : W.grownBy W' (some gy)) : TuS w z gx zx gy zd W' :=
  ⟨(hg.block _ h.b.lt (by have := h.gb; simp; omega)).trans h.b, (hg.block _ h.x.lt (by have := h.gb; simp; omega)).trans h.x, hB, h.bel.grown hg h.bel.size (fun k e => by cases e; exact Nat.le_of_lt h.gb.2.1), h.gb⟩

set_option maxRecDepth 100000 in
set_option maxHeartbeats 4000000 in
theorem turn_walk (z : Nat → Int) (hz : Byt z) (s : ByteArray) (hs : s.size ≤ 9223372036854775807) (ino : Int) (hi : 0 ≤ ino ∧ ino < 4294967296) (w : World) :
    Calls Try.prog 4 #[bval z, .string s, .int .u32 ino] w fun e w' => e = .returned (.bool true) ∧ Below w.heap.size w w' := by
  obtain ⟨hi0, hi1⟩ := hi
  have hal := zero_block
  have HB := Lib.hid (Blk.new w 23 256 z)
  have HL : Hid (Below w.heap.size w (w.alloc (.cells (Ks .u8 256 z).toArray 23))) := (Below.refl _ _).alloc (Nat.le_refl _) _
  go_enter Try.func4, Try.ntmps4
  by_cases h20 : 20000 < s.size
  · have d : (20000 : Int) < s.size := by omega
    go_wp2_with fail
    go_ret
    exact ⟨rfl, HL.out⟩
  have d : ¬ (20000 : Int) < s.size := by omega
  have hB := HB.out
  go_wp2_with fail
  refine wp_copy2 3 18 19 7 8 w.heap.size z rfl hB (by decide) (by simp) (by kernel_rfl) (fun l h => by simp [upB, Region.binds] at h; simp [h]) (fun l h => by simp [upB, Region.binds] at h; simp [h]) ?_
  intro g k w2 hgk hg hk hG hK hb2
  simp only [Act.put, List.setIfInBounds_toArray, List.set_cons_succ, List.set_cons_zero]
  have hsz : w.heap.size < (w.alloc (.cells (Ks .u8 256 z).toArray 23)).heap.size := hB.lt
  have st2 : TuS w z g z k z w2 := ⟨hB.below hb2 hB.lt, hG, hK, HL.out.trans (hb2.mono HL.out.size), by omega, by omega, hgk⟩
  clear HB HL hB hb2 hG hK hg hk hgk hsz
  go_wp2_with fail
  refine (add_any g z hz s hs ino ⟨hi0, hi1⟩ _ st2.x).mono ?_
  rintro e w3 ⟨rfl, hB3, hg3⟩
  have st3 := st2.putx hB3 hg3
  clear st2 hB3 hg3
  have hB := st3.b
  go_wp2_with (first | (refine wp_loadBlkG rfl _ rfl _ _ rfl hB ?_))
  clear hB
  refine (rAdd_any z hz s hs ino ⟨hi0, hi1⟩ _).mono ?_
  rintro e w4 ⟨rfl, hb4⟩
  have st4 := st3.below hb4
  clear st3 hb4
  have hn := Blk.new w4 23 256 (fun _ => 0)
  have hx4 := st4.x.lt
  have hy4 := st4.y.lt
  have hb4 := st4.b.lt
  go_wp2_with (first | (refine wp_storeBlk rfl _ _ rfl w4.heap.size _ _ rfl rfl hn ?_))
  intro w5 hW5 ho5
  have st5 : TuS w z g (addZ z s ino) k z w5 := (st4.below ((Below.refl _ _).alloc (Nat.le_refl _) _)).only ho5 (by omega) (by omega) (by omega)
  generalize w4.heap.size = gw at *
  clear st4 hn ho5
  go_wp2_with fail
  refine (rem_any k z hz s _ st5.y).mono ?_
  rintro e w6 ⟨rfl, hB6, hg6⟩
  have st6 := st5.puty hB6 hg6
  have hW6 : Blk w6 gw 23 256 (addZ z s ino) := (hg6.block _ hW5.lt (by simp; omega)).trans hW5
  clear st5 hB6 hg6 hW5
  have hB := st6.b
  go_wp2_with (first | (refine wp_loadBlkG rfl _ rfl _ _ rfl hB ?_))
  clear hB
  refine (rRem_any z hz s _).mono ?_
  rintro e w7 ⟨rfl, hb7⟩
  have st7 := st6.below hb7
  have hW7 := hW6.below hb7 hW6.lt
  clear st6 hb7 hW6
  have hn := Blk.new w7 23 256 (fun _ => 0)
  have hx7 := st7.x.lt
  have hy7 := st7.y.lt
  have hb7 := st7.b.lt
  have hw7 := hW7.lt
  go_wp2_with (first | (refine wp_storeBlk rfl _ _ rfl w7.heap.size _ _ rfl rfl hn ?_))
  intro w8 hV8 ho8
  have st8 : TuS w z g (addZ z s ino) k (remZ z s) w8 := (st7.below ((Below.refl _ _).alloc (Nat.le_refl _) _)).only ho8 (by omega) (by omega) (by omega)
  have hW8 : Blk w8 gw 23 256 (addZ z s ino) := (hW7.alloc _).only ho8 (by omega)
  generalize w7.heap.size = gv at *
  clear st7 hn ho8 hW7
  have hX := st8.x
  have hY := st8.y
  have eq1 : ∀ W, (binOp .eql 23 (bval (addZ z s ino)) (bval (addZ z s ino))).run Try.prog W = .ok (.bool true) W := fun W => by rw [run_eql_block, eqB_refl]
  have eq2 : ∀ W, (binOp .eql 23 (bval (remZ z s)) (bval (remZ z s))).run Try.prog W = .ok (.bool true) W := fun W => by rw [run_eql_block, eqB_refl]
  have q1 : (addE z s ino == addE z s ino) = true := by simp
  have q2 : (remB z s == remB z s) = true := by simp
  generalize addE z s ino = e1 at *
  generalize remB z s = e2 at *
  go_wp2_with (first | (refine wp_loadBlkG rfl _ rfl _ _ rfl hX ?_) | (refine wp_loadBlkG rfl _ rfl _ _ rfl hY ?_) | (refine wp_loadBlkG rfl _ rfl _ _ rfl hW8 ?_) | (refine wp_loadBlkG rfl _ rfl _ _ rfl hV8 ?_))
  refine (add_nil s ino _).mono ?_
  rintro e w9 ⟨rfl, rfl⟩
  go_wp2_with fail
  refine (rem_nil s _).mono ?_
  rintro e w9 ⟨rfl, rfl⟩
  go_wp2_with fail
  go_ret
  exact ⟨rfl, st8.bel⟩
end Go.Proofs.Ytmghpmbjimdegaa
