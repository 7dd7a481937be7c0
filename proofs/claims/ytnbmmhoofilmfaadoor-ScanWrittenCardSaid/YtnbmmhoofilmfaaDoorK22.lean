/- Texts of this claim, merged by a program (a claim may have 60 files): R9a, R9f, R9h, R9i, Store, R9j, R9b, Move2, MoveIn. -/
import Derived.Test.YtnbmmhoofilmfaaDoorK11
import Derived.Test.YtnbmmhoofilmfaaDoorK02
import Derived.Test.YtnbmmhoofilmfaaDoorK05
import Derived.Test.YtnbmmhoofilmfaaDoorK07
import Derived.OrdersIn
import Derived.OwnWalkIn
/- Contracts of quernref09.block, WriteHead and WriteCommit. -/
namespace Go.Proofs.YtnbmmhoofilmfaaDoor
open Go.RowKit
set_option linter.unusedVariables false

theorem rputW (g : Nat) {T : TypeId} (l : Nat → Int) (k : Nat) (K v : Int) (hK : K = 4 * (k : Int)) (hk : k < 64) (hv : 0 ≤ v) (hv2 : v < 4294967296) (w : World) (hB : Blk w g T 256 (wz l)) :
    Calls Tryd.prog 67 #[.slice (some ⟨g, 0, none⟩) 256 256, .int .i64 K, .int .u32 v] w fun e w' => e = .returned (.bool true) ∧ Blk w' g T 256 (wz (upd l k v)) ∧ Only g w w' := by
  refine (rput32_yes g 0 256 256 K v (wz l) w (by omega) (by omega) (by omega) hv hv2 hB.seg (wz_byt l) (hB.soft 0 256)).mono fun e w' ⟨he, hp⟩ => ⟨he, ?_, hp.only⟩
  rw [show 0 + K.toNat = 4 * k by omega] at hp
  exact (hB.puts hp).congr fun i _ => wz_put l k v i
theorem numR_upd (m : Nat → Int) (k j : Nat) : upd (numR m k) k (m k) j = numR m (k + 1) j := by
  unfold upd numR
  by_cases h : j = k
  · rw [if_pos h, if_pos (by omega), h]
  · rw [if_neg h]
    by_cases c : j < k
    · rw [if_pos c, if_pos (by omega)]
    · rw [if_neg c, if_neg (by omega)]
structure BkC (w : World) (G b off n : Nat) (m : Nat → Int) (k j : Nat) (W : World) : Prop where
  r : Blk W w.heap.size 32 256 (fun _ => 0)
  g : Blk W G 32 256 (wz (if j = 0 then numR m k else numR m (k + 1)))
  t : NumSeg W b off n m
  bel : Below w.heap.size w W

set_option maxRecDepth 100000 in
set_option maxHeartbeats 2000000 in
theorem rblock_any (a : Option Addr) (n cap : Nat) (m : Nat → Int) (hm : Wds m) (hn : n ≤ 64) (w : World) (hT : NumRow w a n m) :
    Calls Tryd.prog 72 #[.slice a n cap] w fun e w' => e = .returned (bval (wz (numR m n))) ∧ Below w.heap.size w w' := by
  have hal := zero_block
  have hR : Blk ((w.alloc (.cells (Ks .u8 256 (fun _ => 0)).toArray 32)).alloc (.cells (Ks .u8 256 (fun _ => 0)).toArray 32)) w.heap.size 32 256 (fun _ => 0) := (Blk.new _ _ _ _).alloc _
  have hB : Blk ((w.alloc (.cells (Ks .u8 256 (fun _ => 0)).toArray 32)).alloc (.cells (Ks .u8 256 (fun _ => 0)).toArray 32)) (w.heap.size + 1) 32 256 (wz (numR m 0)) := by
    have := Blk.new (w.alloc (.cells (Ks .u8 256 (fun _ => 0)).toArray 32)) 32 256 (fun _ => 0)
    simp only [World.size_alloc] at this
    exact this.congr fun i _ => (byteOf_0 _).symm
  have hL : Below w.heap.size w ((w.alloc (.cells (Ks .u8 256 (fun _ => 0)).toArray 32)).alloc (.cells (Ks .u8 256 (fun _ => 0)).toArray 32)) := ((Below.refl _ _).alloc (Nat.le_refl _) _).alloc (by simp) _
  have hT1 := hT.below hL
  have hblk : ∀ x, a = some x → 0 < n → x.block < w.heap.size := fun x hx h0 => hT.block h0 x hx
  have HBLK := Lib.hid hblk
  have HM := Lib.hid hm
  clear hT hblk hm
  go_enter Tryd.func72, Tryd.ntmps72
  go_wp2_with fail
  generalize ((w.alloc (.cells (Ks .u8 256 (fun _ => 0)).toArray 32)).alloc (.cells (Ks .u8 256 (fun _ => 0)).toArray 32)) = w1 at hR hB hL hT1 ⊢
  go_loopw [4] (fun u wr => ∃ k : Nat, k ≤ n ∧ u = .int .i64 (k : Int) ∧ Blk wr w.heap.size 32 256 (fun _ => 0) ∧ Blk wr (w.heap.size + 1) 32 256 (wz (numR m k)) ∧ NumRow wr a n m ∧ Below w.heap.size w wr) (fun u _ => n - (intOf u).toNat)
  case atStart => exact ⟨0, by omega, rfl, hR, hB, hT1, hL⟩
  case round =>
    clear hR hB hL hT1
    obtain ⟨k, hk, rfl, hR, hB, hT, hL⟩ := hrel
    by_cases hlt : k < n
    · obtain ⟨b, off, rfl, hseg⟩ : ∃ b off, a = some ⟨b, off, none⟩ ∧ NumSeg wr b off n m := by
        rcases hT with h | h
        · omega
        · exact h
      have hblt := HBLK.out _ rfl (by omega)
      simp only at hblt
      obtain ⟨hm0, hm1⟩ := HM.out k
      have hc0 : ∀ x : InW (fun W => ∃ j, BkC w (w.heap.size + 1) b off n m k j W), x.W.cell? ⟨b, off + k, none⟩ = some (.int .u32 (m k)) := fun x => by obtain ⟨j, h⟩ := x.h; exact h.t k hlt
      have e1 : IntKind.i64.wrap (4 * (k : Int)) = 4 * (k : Int) := IntWalk.i64_in _ (by omega)
      have hsa := fun W => run_sliceBlkAll (w.heap.size + 1) 0 W
      have l0 : (0 : Int) ≤ (k : Int) := by omega
      have l1 : (k : Int) < (n : Int) := by omega
      go_wp2_with fail
      refine wp_region_lin (BkC w (w.heap.size + 1) b off n m k) (by kernel_rfl) (by kernel_rfl) (by kernel_rfl) ⟨hR, hB, hseg, hL.drew⟩ ?_
      intro hne
      (refine lin_take 7 (by kernel_rfl) ?_; simp only [List.take_succ_cons, List.take_zero, List.drop_succ_cons, List.drop_zero])
      first | go_big_quiet_skip | (go_big_quiet_want; go_big_quiet_op; go_big_quiet_on)
      first | go_big_quiet_skip | (go_big_quiet_want; go_big_quiet_op; go_big_quiet_on)
      first | go_big_quiet_skip | (go_big_quiet_want; go_big_quiet_op; go_big_quiet_on)
      first | go_big_quiet_skip | (go_big_quiet_want; go_big_quiet_op; go_big_quiet_on)
      first | go_big_quiet_skip | (go_big_quiet_want; go_big_quiet_op; go_big_quiet_on)
      first | go_big_quiet_skip | (go_big_quiet_want; go_big_quiet_op; go_big_quiet_on)
      first | go_big_quiet_skip | (go_big_quiet_want; go_big_quiet_op; go_big_quiet_on)
      refine wpQuiet_nil ?_
      refine lin_call rfl rfl 67 #[.slice (some ⟨w.heap.size + 1, 0, none⟩) 256 256, .int .i64 (4 * (k : Int)), .int .u32 (m k)] (.bool true) (fun W => by kernel_rfl) (fun W h => ?c1) ?_
      case c1 =>
        refine (rputW (w.heap.size + 1) (numR m k) k (4 * (k : Int)) (m k) rfl (by omega) hm0 hm1 W h.g).mono ?_
        rintro e w6 ⟨rfl, hB6, ho6⟩
        exact ⟨rfl, h.r.only ho6 (by omega), hB6.congr fun i hi => wz_congr 64 (fun j _ => numR_upd m k j) i hi, h.t.only ho6 (by omega), h.bel.trans (ho6.below (by omega))⟩
      refine wpLin_frame (by simp only [Act.put, List.setIfInBounds_toArray, List.set_cons_succ, List.set_cons_zero]; exact rfl) ?_
      refine wpLin_nil ?_
      rintro w6 ⟨hR6, hB6, hT6, hL6⟩
      rw [if_neg (by decide)] at hB6
      clear hne hR hB hT hL hseg hc0 e1 hsa
      go_wp2_with fail
      go_roundw
      case rel => first | exact ⟨k + 1, by omega, by go_num, hR6, hB6, .inr ⟨b, off, rfl, hT6⟩, hL6⟩ | ((repeat apply Exists.intro); exact ⟨⟨k + 1, by omega, by go_num, hR6, hB6, .inr ⟨b, off, rfl, hT6⟩, hL6⟩, rfl⟩)
      case measure => simp [intOf]; omega
    · obtain rfl : k = n := by omega
      go_wp2_with (first | (refine wp_loadBlk rfl (.tmp 3) rfl (w.heap.size + 1) (wz (numR m k)) rfl hB ?_) | (refine wp_storeBlk rfl (.tmp 2) (.tmp 19) rfl w.heap.size (wz (numR m k)) _ rfl rfl hR ?_))
      intro w6 hR6 ho6
      go_wp2_with fail
      exact bodyPost_ret (results_blk rfl _ _ w.heap.size _ rfl hR6) rfl ⟨rfl, hL.trans (ho6.below (Nat.le_refl _))⟩
end Go.Proofs.YtnbmmhoofilmfaaDoor

/- Contracts of quernref09.at, begins and Unescape. -/
namespace Go.Proofs.YtnbmmhoofilmfaaDoor
open Go.RowKit
set_option linter.unusedVariables false

set_option maxRecDepth 100000 in
set_option maxHeartbeats 200000 in
theorem rat_any (z : Nat → Int) (hz : Byt z) (k : Nat) (K : Int) (hK : K = 4 * (k : Int)) (hk : k < 64) (w : World) :
    Calls Tryd.prog 138 #[bval z, .int .i64 K] w fun e w' => e = .returned (.int .u32 (wd z k)) ∧ Below w.heap.size w w' := by
  have hB := Blk.new w 32 256 z
  have hL : Below w.heap.size w (w.alloc (.cells (Ks .u8 256 z).toArray 32)) := (Below.refl _ _).alloc (Nat.le_refl _) _
  have hsa := fun W => run_sliceBlkAll w.heap.size 0 W
  have hgt := rget32_yes w.heap.size 0 256 256 K z _ (by omega) (by omega) (by omega) hB.seg hz
  rw [show K.toNat = 4 * k by omega] at hgt
  have HG := Lib.hid hgt
  have HL := Lib.hid hL
  clear hgt hB hL hK
  go_enter Tryd.func138, Tryd.ntmps138
  go_wp2_with fail
  refine HG.out.mono ?_
  rintro e w1 ⟨rfl, nn, rfl⟩
  have hL1 := bel_drewN HL.out nn
  generalize World.drewN _ nn = w2 at hL1 ⊢
  go_wp2_with fail
  go_ret
  exact ⟨rfl, hL1⟩
def beginsB (z : Nat → Int) (k : Int) : Bool := wd z 0 == 1280199249 && (wd z 1 == k && seqB (wd z 2))
theorem beginsB_iff (z : Nat → Int) (k : Int) (h1 : 1 ≤ k) (h4 : k ≤ 4) : beginsB z k = (kindOf z == k) := by
  unfold beginsB kindOf kindB
  by_cases a : wd z 0 = 1280199249
  · by_cases b : seqB (wd z 2) = true
    · by_cases c : wd z 1 = k
      · simp [a, b, c, h1, h4]
      · simp only [a, b, beq_self_eq_true, Bool.true_and, Bool.and_true]
        split
        · rfl
        · have : (wd z 1 == k) = false := by simpa using c
          rw [this]; symm; simp; omega
    · rw [Bool.not_eq_true] at b
      rw [b]; simp; omega
  · have : (wd z 0 == 1280199249) = false := by simpa using a
    rw [this]; simp; omega


end Go.Proofs.YtnbmmhoofilmfaaDoor

/- The contract of quernref09.Kind. -/
namespace Go.Proofs.YtnbmmhoofilmfaaDoor
open Go.RowKit
set_option linter.unusedVariables false

structure RkSt (w : World) (z : Nat → Int) (W : World) : Prop where
  b : Blk W w.heap.size 32 256 z
  bel : Below w.heap.size w W
theorem kind_rng (z : Nat → Int) : kindOf z = 0 ∨ (1 ≤ kindOf z ∧ kindOf z ≤ 4 ∧ seqOf z = wd z 2) := by
  unfold kindOf seqOf
  by_cases h : kindB z = true
  · rw [if_pos h, if_pos h]
    unfold kindB at h
    simp only [Bool.and_eq_true, decide_eq_true_eq] at h
    exact .inr ⟨h.2.2.1, h.2.2.2, rfl⟩
  · rw [if_neg h]; exact .inl rfl
theorem kind_zero (z : Nat → Int) (h : kindOf z = 0) : seqOf z = 0 := by
  unfold kindOf at h
  unfold seqOf
  by_cases hk : kindB z = true
  · rw [if_pos hk] at h
    unfold kindB at hk
    simp only [Bool.and_eq_true, decide_eq_true_eq] at hk
    omega
  · rw [if_neg hk]

end Go.Proofs.YtnbmmhoofilmfaaDoor

/- The contract of quernref09.ReadCommit. -/
namespace Go.Proofs.YtnbmmhoofilmfaaDoor
open Go.RowKit
set_option linter.unusedVariables false

theorem commitV_no {z : Nat → Int} (h : commitRd z = false) : commitV z = .tuple #[.int .u32 0, .int .i64 0, .int .u32 0, .int .i64 90] := by unfold commitV; rw [h]; rfl

end Go.Proofs.YtnbmmhoofilmfaaDoor

/- A store of one cell; a byte stored into a block. -/
namespace Go.Proofs.YtnbmmhoofilmfaaDoor
open Go.RowKit
set_option linter.unusedVariables false

section
variable {P : Program}
theorem run_storeVar1 (w : World) (b off : Nat) (ty : TypeId) (u v : Value) (hc : w.cell? ⟨b, off, none⟩ = some u) (hf : w.frozen? ⟨b, off, none⟩ = false) (hi : (P.info? ty).map (·.size) = some 1) (h1 : v.oneCell' = true) :
    (storeVar ty ⟨b, off, none⟩ v).run P w = .ok () (w.setCell ⟨b, off, none⟩ v) := by
  have hv : v.cells = #[v] := by cases v <;> first | rfl | cases h1
  have hst : (store ⟨b, off, none⟩ v).run P w = .ok () (w.setCell ⟨b, off, none⟩ v) := by rw [run_store P w _ _ _ h1, hc]; simp [hf]
  cases hq : P.info? ty with
  | none => simp [hq] at hi
  | some i =>
    have hs : i.size = 1 := by simpa [hq] using hi
    simp [storeVar, sizeOf, typeInfo, hq, hv, hs, storeCells, addr_add, hst]
theorem wp_store1 {ops : Array Oper} {rest : List Oper} {o : Oper} {a : Act} {w : World} {Q : Exit → Act → World → Prop} (hgd : o.guard = none) (ty : TypeId) (x y : Operand) (ho : o.op = .store ty x y)
    (b off : Nat) (v : Value) (hx : a.eval x = .pointer (some ⟨b, off, none⟩)) (hy : a.eval y = v) (u : Value) (hc : w.cell? ⟨b, off, none⟩ = some u) (hf : w.frozen? ⟨b, off, none⟩ = false) (hi : (P.info? ty).map (·.size) = some 1) (h1 : v.oneCell' = true)
    (h : wpList P ops Q rest (a.put o.dst undef) (w.setCell ⟨b, off, none⟩ v)) : wpList P ops Q (o :: rest) a w :=
  wpList_plain hgd fun _ hK => by
    unfold Oper.wp execOp
    simp only [ho, hx, hy, Instr.storeAt, Instr.sureAddr, Sem.run_bind, Sem.run_pure, Result.andThen_ok, run_storeVar1 w b off ty u v hc hf hi h1]
    exact hK _ _ h
end
theorem info_u8 : (Tryd.prog.info? 5).map (·.size) = some 1 := by kernel_rfl
/-- a byte of a block is stored -/
theorem wp_storeByte {ops : Array Oper} {rest : List Oper} {o : Oper} {a : Act} {w : World} {Q : Exit → Act → World → Prop} (hgd : o.guard = none) (x y : Operand) (ho : o.op = .store 5 x y)
    (b off : Nat) (v : Int) (hx : a.eval x = .pointer (some ⟨b, off, none⟩)) (hy : a.eval y = .int .u8 v) {T : TypeId} {n : Nat} {z : Nat → Int} (hB : Blk w b T n z) (hn : off < n)
    (h : ∀ w', Blk w' b T n (over z off 1 (fun _ => v)) → Only b w w' → wpList Tryd.prog ops Q rest (a.put o.dst undef) w') : wpList Tryd.prog ops Q (o :: rest) a w :=
  wp_store1 hgd 5 x y ho b off _ hx hy _ (by have := hB.seg off hn; rwa [Nat.zero_add] at this) (soft_of_heap hB off) info_u8 rfl (h _ (hB.setCell off v hn) (Only.setCell w ⟨b, off, none⟩ _))
end Go.Proofs.YtnbmmhoofilmfaaDoor

/- Contracts of quernref09.ReadHead and Escape. -/
namespace Go.Proofs.YtnbmmhoofilmfaaDoor
open Go.RowKit
set_option linter.unusedVariables false

structure RhSt (w : World) (z : Nat → Int) (W : World) : Prop where
  b : Blk W w.heap.size 32 256 z
  r : At W (w.heap.size + 1) 36 #[.int .u32 0, .int .i64 0]
  bel : Below w.heap.size w W
theorem RhSt.below {w W W' : World} {z : Nat → Int} (h : RhSt w z W) (hb : Below W.heap.size W W') : RhSt w z W' := ⟨h.b.below hb h.b.lt, h.r.below hb h.r.lt, h.bel.trans (hb.mono h.bel.size)⟩

structure ReSt (w : World) (z : Nat → Int) (W : World) : Prop where
  b : Blk W w.heap.size 32 256 z
  r : Blk W (w.heap.size + 1) 32 256 (fun _ => 0)
  bel : Below w.heap.size w W
theorem ReSt.below {w W W' : World} {z : Nat → Int} (h : ReSt w z W) (hb : Below W.heap.size W W') : ReSt w z W' := ⟨h.b.below hb h.b.lt, h.r.below hb h.r.lt, h.bel.trans (hb.mono h.bel.size)⟩

set_option maxRecDepth 100000 in
set_option maxHeartbeats 1000000 in
theorem rEscape_any (z : Nat → Int) (hz : Byt z) (w : World) :
    Calls Tryd.prog 104 #[bval z] w fun e w' => e = .returned (.tuple #[bval (escZ z), .bool (escB z)]) ∧ Below w.heap.size w w' := by
  have hal := zero_block
  have ST0 : Hid (ReSt w z ((w.alloc (.cells (Ks .u8 256 z).toArray 32)).alloc (.cells (Ks .u8 256 (fun _ => 0)).toArray 32))) := ⟨(Blk.new _ _ _ _).alloc _, by
    have := Blk.new (w.alloc (.cells (Ks .u8 256 z).toArray 32)) 32 256 (fun _ => 0)
    simp only [World.size_alloc] at this
    exact this, ((Below.refl _ _).alloc (Nat.le_refl _) _).alloc (by simp) _⟩
  have hB := ST0.out.b
  go_enter Tryd.func104, Tryd.ntmps104
  go_wp2_with (first | (refine wp_loadBlkG rfl _ rfl _ _ rfl hB ?_))
  refine (rat_any z hz 0 0 rfl (by omega) _).mono ?_
  rintro e w1 ⟨rfl, hb1⟩
  have st1 := ST0.out.below hb1
  clear hB ST0 hb1 hal
  have hB1 := st1.b
  have hR1 := st1.r
  by_cases h0 : wd z 0 = 1280199249
  rotate_left
  · have q : (wd z 0 != 1280199249) = true := by simpa using h0
    have HK : Hid (escB z = false) := by show _ = _; unfold escB; simp [h0]
    clear h0
    go_wp2_with (first | (refine wp_loadBlk rfl _ rfl _ _ rfl hB1 ?_) | (refine wp_storeBlk rfl _ _ rfl _ z _ rfl rfl hR1 ?_))
    intro w2 hR2 ho2
    go_wp2_with fail
    exact bodyPost_ret (results_blk2 rfl _ _ (w.heap.size + 1) _ rfl hR2) rfl ⟨by rw [escZ, HK.out]; rfl, st1.bel.trans (ho2.below (by omega))⟩
  have q : (wd z 0 != 1280199249) = false := by simpa using h0
  have HK : Hid (escB z = true) := by show _ = _; unfold escB; simp [h0]
  clear h0
  have hL1 := st1.bel
  clear st1
  go_wp2_with (first | (refine wp_storeByte rfl _ _ rfl _ _ _ rfl rfl hB1 (by decide) ?_))
  intro w2 hB2 ho2
  have hR2 := hR1.only ho2 (by omega)
  have hL2 := hL1.trans (ho2.below (by omega))
  clear hB1 hR1 ho2
  go_wp2_with (first | (refine wp_storeByte rfl _ _ rfl _ _ _ rfl rfl hB2 (by decide) ?_))
  intro w3 hB3 ho3
  have hR3 := hR2.only ho3 (by omega)
  have hL3 := hL2.trans (ho3.below (by omega))
  clear hB2 hR2 ho3
  go_wp2_with (first | (refine wp_storeByte rfl _ _ rfl _ _ _ rfl rfl hB3 (by decide) ?_))
  intro w4 hB4 ho4
  have hR4 := hR3.only ho4 (by omega)
  have hL4 := hL3.trans (ho4.below (by omega))
  clear hB3 hR3 ho4
  go_wp2_with (first | (refine wp_storeByte rfl _ _ rfl _ _ _ rfl rfl hB4 (by decide) ?_))
  intro w5 hB5 ho5
  have hR5 := hR4.only ho5 (by omega)
  have hL5 := hL4.trans (ho5.below (by omega))
  clear hB4 hR4 ho5
  have hB6 : Blk w5 w.heap.size 32 256 (escZ z) := hB5.congr fun i hi => by
    rw [escZ, HK.out]
    simp only [if_true]
    unfold over
    rcases i with _ | _ | _ | _ | i
    · simp [byteOf]
    · simp [byteOf]
    · simp [byteOf]
    · simp [byteOf]
    · simp; rw [if_neg (by omega), if_neg (by omega), if_neg (by omega), if_neg (by omega)]
  clear hB5 q
  go_wp2_with (first | (refine wp_loadBlk rfl _ rfl _ _ rfl hB6 ?_) | (refine wp_storeBlk rfl _ _ rfl _ (escZ z) _ rfl rfl hR5 ?_))
  intro w6 hR6 ho6
  go_wp2_with fail
  exact bodyPost_ret (results_blk2 rfl _ _ (w.heap.size + 1) _ rfl hR6) rfl ⟨by rw [HK.out]; rfl, hL5.trans (ho6.below (by omega))⟩
end Go.Proofs.YtnbmmhoofilmfaaDoor

/- Contracts of quernref09.WriteHead and WriteCommit. -/
namespace Go.Proofs.YtnbmmhoofilmfaaDoor
open Go.RowKit
set_option linter.unusedVariables false

theorem run_nums4 (a b c d : Int) (w : World) : (Instr.buildSlice 149 4 #[(0, .int .u32 a), (1, .int .u32 b), (2, .int .u32 c), (3, .int .u32 d)]).run Tryd.prog w = .ok (.slice (some ⟨w.heap.size, 0, none⟩) 4 4) (w.alloc (.cells #[.int .u32 a, .int .u32 b, .int .u32 c, .int .u32 d] 34)) := by kernel_rfl
theorem run_nums5 (a b c d f : Int) (w : World) : (Instr.buildSlice 149 5 #[(0, .int .u32 a), (1, .int .u32 b), (2, .int .u32 c), (3, .int .u32 d), (4, .int .u32 f)]).run Tryd.prog w = .ok (.slice (some ⟨w.heap.size, 0, none⟩) 5 5) (w.alloc (.cells #[.int .u32 a, .int .u32 b, .int .u32 c, .int .u32 d, .int .u32 f] 34)) := by kernel_rfl
theorem nums4 (w : World) (k s f : Int) (r : Nat → Int) : NumRow (w.alloc (.cells #[.int .u32 1280199249, .int .u32 k, .int .u32 s, .int .u32 f] 34)) (some ⟨w.heap.size, 0, none⟩) 4 (jw k s f r) := by
  refine .inr ⟨_, _, rfl, fun i hi => ?_⟩
  have h := heap_alloc_new w (.cells #[.int .u32 1280199249, .int .u32 k, .int .u32 s, .int .u32 f] 34)
  obtain rfl | rfl | rfl | rfl : i = 0 ∨ i = 1 ∨ i = 2 ∨ i = 3 := by omega
  all_goals exact cell_of_heap h rfl
theorem nums5 (w : World) (k s f v : Int) : NumRow (w.alloc (.cells #[.int .u32 1280199249, .int .u32 k, .int .u32 s, .int .u32 f, .int .u32 v] 34)) (some ⟨w.heap.size, 0, none⟩) 5 (jw k s f (sumR v)) := by
  refine .inr ⟨_, _, rfl, fun i hi => ?_⟩
  have h := heap_alloc_new w (.cells #[.int .u32 1280199249, .int .u32 k, .int .u32 s, .int .u32 f, .int .u32 v] 34)
  obtain rfl | rfl | rfl | rfl | rfl : i = 0 ∨ i = 1 ∨ i = 2 ∨ i = 3 ∨ i = 4 := by omega
  all_goals exact cell_of_heap h rfl
theorem wz_numR {m l : Nat → Int} {n : Nat} (h : ∀ k, k < 64 → (if k < n then m k else 0) = l k) : bval (wz (numR m n)) = bval (wz l) := bval_congr fun i hi => wz_congr 64 h i hi
theorem nz_wds' : Wds nz := fun _ => by unfold nz; decide
theorem sumR_wds' {v : Int} (hv : 0 ≤ v ∧ v < 4294967296) : Wds (sumR v) := fun k => by unfold sumR; split <;> omega

set_option maxRecDepth 100000 in
set_option maxHeartbeats 1000000 in
theorem rWriteHead_any (s t : Int) (w : World) (hs : 0 ≤ s ∧ s < 4294967296) (ht : -9223372036854775808 ≤ t ∧ t ≤ 9223372036854775807) :
    Calls Tryd.prog 33 #[.agg #[.int .u32 s, .int .i64 t]] w fun e w' => e = .returned (.tuple #[bval (headZ s t), .int .i64 (errOf (headOk s t) 2)]) ∧ Below w.heap.size w w' := by
  obtain ⟨hs0, hs1⟩ := hs
  obtain ⟨ht0, ht1⟩ := ht
  have hal := zero_block
  obtain ⟨W, hW⟩ : ∃ W, W = (w.alloc (.cells #[.int .u32 s, .int .i64 t] 36)).alloc (.cells (Ks .u8 256 (fun _ => 0)).toArray 32) := ⟨_, rfl⟩
  have c0 : W.cell? ⟨w.heap.size, 0, none⟩ = some (.int .u32 s) := by rw [hW]; exact cell_of_heap (heap_alloc_keep (heap_alloc_new w _) _) rfl
  have c1 : W.cell? ⟨w.heap.size, 1, none⟩ = some (.int .i64 t) := by rw [hW]; exact cell_of_heap (heap_alloc_keep (heap_alloc_new w _) _) rfl
  have hR : Blk W (w.heap.size + 1) 32 256 (fun _ => 0) := by
    rw [hW]
    have := Blk.new (w.alloc (.cells #[.int .u32 s, .int .i64 t] 36)) 32 256 (fun _ => 0)
    simp only [World.size_alloc] at this
    exact this
  have hL : Below w.heap.size w W := by rw [hW]; exact ((Below.refl _ _).alloc (Nat.le_refl _) _).alloc (by simp) _
  have HW := Lib.hid hW
  have HC0 := Lib.hid c0
  have HC1 := Lib.hid c1
  clear hW c0 c1
  go_enter Tryd.func33, Tryd.ntmps33
  go_wp2_with fail
  rw [← HW.out]
  refine (rSeq_any s _).mono ?_
  rintro e w1 ⟨rfl, rfl⟩
  have c0 := HC0.out
  have c1 := HC1.out
  clear HC0 HC1 HW
  by_cases hq : seqB s = true
  rotate_left
  · rw [Bool.not_eq_true] at hq
    have HO : Hid (headOk s t = false) := by show _ = _; unfold headOk; rw [hq]; rfl
    rw [hq]
    clear hq
    go_wp2_with (first | (refine wp_storeBlk rfl (.tmp 2) (.tmp 18) rfl (w.heap.size + 1) (fun _ => 0) _ rfl rfl hR ?_))
    intro w2 hR2 ho2
    go_wp2_with fail
    exact bodyPost_ret (results_blk2 rfl _ _ (w.heap.size + 1) _ rfl hR2) rfl ⟨by rw [headZ, HO.out]; rfl, hL.trans (ho2.below (by omega))⟩
  by_cases h1 : 0 ≤ t
  rotate_left
  · have HO : Hid (headOk s t = false) := by show _ = _; unfold headOk; simp [h1]
    rw [hq]
    clear hq
    go_wp2_with (first | (refine wp_storeBlk rfl (.tmp 2) (.tmp 18) rfl (w.heap.size + 1) (fun _ => 0) _ rfl rfl hR ?_))
    intro w2 hR2 ho2
    go_wp2_with fail
    exact bodyPost_ret (results_blk2 rfl _ _ (w.heap.size + 1) _ rfl hR2) rfl ⟨by rw [headZ, HO.out]; rfl, hL.trans (ho2.below (by omega))⟩
  by_cases h2 : t ≤ 255
  rotate_left
  · have HO : Hid (headOk s t = false) := by show _ = _; unfold headOk; simp [h2]
    rw [hq]
    clear hq
    go_wp2_with (first | (refine wp_storeBlk rfl (.tmp 2) (.tmp 18) rfl (w.heap.size + 1) (fun _ => 0) _ rfl rfl hR ?_))
    intro w2 hR2 ho2
    go_wp2_with fail
    exact bodyPost_ret (results_blk2 rfl _ _ (w.heap.size + 1) _ rfl hR2) rfl ⟨by rw [headZ, HO.out]; rfl, hL.trans (ho2.below (by omega))⟩
  have HO : Hid (headOk s t = true) := by show _ = _; unfold headOk; rw [hq]; simp [h1, h2]
  rw [hq]
  clear hq
  have hbs := run_nums4
  have hrow := nums4 W 4 s t nz
  have HROW := Lib.hid hrow
  clear hrow
  go_wp2_with fail
  refine (rblock_any _ 4 4 (jw 4 s t nz) (jw_wds (by decide) (by omega) (by omega) nz_wds') (by decide) _ HROW.out).mono ?_
  rintro e w2 ⟨rfl, hb2⟩
  rw [wz_numR (l := jw 4 s t nz) (fun k _ => by
    split
    · rfl
    · unfold jw nz; rw [if_neg (by omega), if_neg (by omega), if_neg (by omega), if_neg (by omega)])]
  have hR2 := (hR.alloc _).below hb2 (hR.alloc _).lt
  have hL2 : Below w.heap.size w w2 := (hL.alloc hL.size _).trans (hb2.mono (hL.alloc hL.size _).size)
  clear hR hL hb2 c0 c1 hbs HROW
  go_wp2_with (first | (refine wp_storeBlk rfl (.tmp 2) (.tmp 25) rfl (w.heap.size + 1) (wz (jw 4 s t nz)) _ rfl rfl hR2 ?_))
  intro w3 hR3 ho3
  go_wp2_with fail
  exact bodyPost_ret (results_blk2 rfl _ _ (w.heap.size + 1) _ rfl hR3) rfl ⟨by rw [headZ, HO.out]; rfl, hL2.trans (ho3.below (by omega))⟩

set_option maxRecDepth 100000 in
set_option maxHeartbeats 1000000 in
theorem rWriteCommit_any (s n v : Int) (w : World) (hs : 0 ≤ s ∧ s < 4294967296) (hn : -9223372036854775808 ≤ n ∧ n ≤ 9223372036854775807) (hv : 0 ≤ v ∧ v < 4294967296) :
    Calls Tryd.prog 107 #[.int .u32 s, .int .i64 n, .int .u32 v] w fun e w' => e = .returned (.tuple #[bval (commitZ s n v), .int .i64 (errOf (commitOk s n) 2)]) ∧ Below w.heap.size w w' := by
  obtain ⟨hs0, hs1⟩ := hs
  obtain ⟨hn0, hn1⟩ := hn
  have hal := zero_block
  have hR0 : Hid (Blk (w.alloc (.cells (Ks .u8 256 (fun _ => 0)).toArray 32)) w.heap.size 32 256 (fun _ => 0)) := Blk.new _ _ _ _
  have hL0 : Hid (Below w.heap.size w (w.alloc (.cells (Ks .u8 256 (fun _ => 0)).toArray 32))) := (Below.refl _ _).alloc (Nat.le_refl _) _
  go_enter Tryd.func107, Tryd.ntmps107
  go_wp2_with fail
  refine ((rSeq_any s _).mono (R' := fun e w' => e = .returned (.bool (seqB s)) ∧ Blk w' w.heap.size 32 256 (fun _ => 0) ∧ Below w.heap.size w w') (fun e w' h => ⟨h.1, h.2 ▸ hR0.out, h.2 ▸ hL0.out⟩)).mono ?_
  rintro e W ⟨rfl, hR, hL⟩
  clear hR0 hL0
  by_cases hq : seqB s = true
  rotate_left
  · rw [Bool.not_eq_true] at hq
    have HO : Hid (commitOk s n = false) := by show _ = _; unfold commitOk; rw [hq]; rfl
    rw [hq]
    clear hq
    go_wp2_with (first | (refine wp_storeBlk rfl (.tmp 6) (.tmp 19) rfl w.heap.size (fun _ => 0) _ rfl rfl hR ?_))
    intro w2 hR2 ho2
    go_wp2_with fail
    exact bodyPost_ret (results_blk2 rfl _ _ w.heap.size _ rfl hR2) rfl ⟨by rw [commitZ, HO.out]; rfl, hL.trans (ho2.below (by omega))⟩
  by_cases h1 : 1 ≤ n
  rotate_left
  · have HO : Hid (commitOk s n = false) := by show _ = _; unfold commitOk; simp [h1]
    rw [hq]
    clear hq
    go_wp2_with (first | (refine wp_storeBlk rfl (.tmp 6) (.tmp 19) rfl w.heap.size (fun _ => 0) _ rfl rfl hR ?_))
    intro w2 hR2 ho2
    go_wp2_with fail
    exact bodyPost_ret (results_blk2 rfl _ _ w.heap.size _ rfl hR2) rfl ⟨by rw [commitZ, HO.out]; rfl, hL.trans (ho2.below (by omega))⟩
  by_cases h2 : n ≤ 256
  rotate_left
  · have HO : Hid (commitOk s n = false) := by show _ = _; unfold commitOk; simp [h2]
    rw [hq]
    clear hq
    go_wp2_with (first | (refine wp_storeBlk rfl (.tmp 6) (.tmp 19) rfl w.heap.size (fun _ => 0) _ rfl rfl hR ?_))
    intro w2 hR2 ho2
    go_wp2_with fail
    exact bodyPost_ret (results_blk2 rfl _ _ w.heap.size _ rfl hR2) rfl ⟨by rw [commitZ, HO.out]; rfl, hL.trans (ho2.below (by omega))⟩
  have HO : Hid (commitOk s n = true) := by show _ = _; unfold commitOk; rw [hq]; simp [h1, h2]
  rw [hq]
  clear hq
  have hbs := run_nums5
  have hrow := nums5 W 2 s n v
  have HROW := Lib.hid hrow
  clear hrow
  go_wp2_with fail
  refine (rblock_any _ 5 5 (jw 2 s n (sumR v)) (jw_wds (by decide) (by omega) (by omega) (sumR_wds' hv)) (by decide) _ HROW.out).mono ?_
  rintro e w2 ⟨rfl, hb2⟩
  rw [wz_numR (l := jw 2 s n (sumR v)) (fun k _ => by
    split
    · rfl
    · unfold jw sumR; rw [if_neg (by omega), if_neg (by omega), if_neg (by omega), if_neg (by omega), if_neg (by omega)])]
  have hR2 := (hR.alloc _).below hb2 (hR.alloc _).lt
  have hL2 : Below w.heap.size w w2 := (hL.alloc hL.size _).trans (hb2.mono (hL.alloc hL.size _).size)
  clear hR hL hb2 hbs HROW
  go_wp2_with (first | (refine wp_storeBlk rfl (.tmp 6) (.tmp 25) rfl w.heap.size (wz (jw 2 s n (sumR v))) _ rfl rfl hR2 ?_))
  intro w3 hR3 ho3
  go_wp2_with fail
  exact bodyPost_ret (results_blk2 rfl _ _ w.heap.size _ rfl hR3) rfl ⟨by rw [commitZ, HO.out]; rfl, hL2.trans (ho3.below (by omega))⟩
end Go.Proofs.YtnbmmhoofilmfaaDoor

/- As XMove's law, each mover bound to wait for the one ahead of it at however many steps (through plain operations too). -/
namespace Go.Proofs.YtnbmmhoofilmfaaDoor.Mv
open Go.RowKit Go.Proofs.YtnbmmhoofilmfaaDoor
set_option linter.unusedVariables false

def reachB (md : Region.Mode) (ops : Array Oper) : Nat → Nat → Nat → Bool
  | 0, _, _ => false
  | fuel + 1, j, i => match ops[j]? with
    | none => false
    | some oj => oj.after.any fun e => Region.binds md e && (e.on == i || reachB md ops fuel e.on i)
def chainC (md : Region.Mode) (ops : Array Oper) : Bool :=
  (List.range ops.size).all fun j => (List.range j).all fun i => match ops[j]?, ops[i]? with
    | some oj, some oi => !(mv oi && mv oj) || reachB md ops ops.size j i
    | _, _ => true
section
variable {P : Program} {ops : Array Oper} {md : Region.Mode} {σ : Type} {C : σ → World → Prop}
theorem chainC_spec (h : chainC md ops = true) {i j : Nat} {oi oj : Oper} (hi : ops[i]? = some oi) (hj : ops[j]? = some oj) (ci : mv oi = true) (cj : mv oj = true) (hij : i < j) : reachB md ops ops.size j i = true := by
  unfold chainC at h
  rw [List.all_eq_true] at h
  have h1 := h j (List.mem_range.2 (Array.getElem?_eq_some_iff.1 hj).1)
  rw [List.all_eq_true] at h1
  have h2 := h1 i (List.mem_range.2 hij)
  rw [hi, hj] at h2
  simpa only [ci, cj, Bool.and_true, Bool.not_true, Bool.false_or] using h2
/-- what a listed operation waits for is listed -/
def Cl (md : Region.Mode) (ops : Array Oper) (listed : Array Bool) : Prop := ∀ j oj, ops[j]? = some oj → listed.getD j false = true → ∀ e ∈ oj.after, Region.binds md e = true → listed.getD e.on false = true
theorem Cl.next {listed : Array Bool} (h : Cl md ops listed) {j : Nat} (hj : j ∈ Region.ready md ops listed) : Cl md ops (listed.setIfInBounds j true) := by
  intro k ok hk hl e he hb
  obtain ⟨hun, oj, hoj, hall⟩ := mem_ready.1 hj
  refine getD_set_true ?_
  by_cases hjk : j = k
  · subst hjk
    rw [hoj] at hk; cases hk
    exact hall e he hb
  · rw [getD_set_ne false hjk] at hl
    exact h k ok hk hl e he hb
theorem Cl.reach {listed : Array Bool} (h : Cl md ops listed) : ∀ {fuel j i : Nat} {oj : Oper}, (∀ e ∈ oj.after, Region.binds md e = true → listed.getD e.on false = true) → ops[j]? = some oj → reachB md ops fuel j i = true → listed.getD i false = true
  | 0, _, _, _, _, _, hr => by cases hr
  | fuel + 1, j, i, oj, hall, hj, hr => by
    unfold reachB at hr
    rw [hj] at hr
    simp only [Array.any_eq_true', Bool.and_eq_true, Bool.or_eq_true, beq_iff_eq] at hr
    obtain ⟨e, he, hb, hr⟩ := hr
    have h1 := hall e he hb
    rcases hr with rfl | hr
    · exact h1
    · cases ho : ops[e.on]? with
      | none =>
        cases fuel with
        | zero => cases hr
        | succ f => unfold reachB at hr; rw [ho] at hr; cases hr
      | some oe => exact Cl.reach h (h _ oe ho h1) ho hr
theorem wpAnyL_firstC (hex : ∀ f args w (R' : Ending → World → Prop), Calls P f args w R' → ∃ e w', R' e w') (hch : chainC md ops = true) {Q : σ → Act → Prop} {i : Nat} {oi : Oper} (hi : ops[i]? = some oi) (hsel : ∀ (j : Nat) (o : Oper) cs b, ops[j]? = some o → o.op ≠ .select cs b) :
    ∀ (fuel : Nat) (listed : Array Bool) (s : σ) (a : Act), NE C s → Cl md ops listed → (∀ j, j < i → listed.getD j true = true) →
      (∀ j oj, ops[j]? = some oj → j ≠ i → listed.getD j true = false → (∀ e ∈ oj.after, Region.binds md e = true → e.on ≠ i) → oi.apart ops oj = true) →
      i ∈ Region.ready md ops listed → LX P ops C oi a s (wpAnyL P md ops C Q fuel (listed.setIfInBounds i true)) → wpAnyL P md ops C Q (fuel + 1) listed s a := by
  intro fuel
  induction fuel with
  | zero =>
    intro listed s a hne _ _ _ hr H
    refine ⟨fun h => (by rw [h] at hr; cases hr), fun j hj => ?_⟩
    by_cases hji : j = i
    · subst hji; exact H.linOp hi
    · have h1 := ready_mono hj hji
      have h2 : Region.ready md ops (listed.setIfInBounds i true) = [] := by
        obtain ⟨w0, hC0⟩ := hne
        rcases H with ⟨_, ⟨_, hk⟩ | ⟨_, v, _, hk⟩⟩ | ⟨_, hk⟩
        · obtain ⟨_, _, s', _, hL⟩ := movesUpon_some (hk w0 hC0) hex
          exact hL.1
        · exact hk.1
        · exact hk.1
      rw [h2] at h1
      cases h1
  | succ fuel ih =>
    intro listed s a hne hpre hlow hfree hr H
    refine ⟨fun h => (by rw [h] at hr; cases hr), fun j hj => ?_⟩
    by_cases hji : j = i
    · subst hji; exact H.linOp hi
    · have H1 : LX P ops C oi a s (fun s1 a1 => Mv.linOp P ops C j (wpAnyL P md ops C Q fuel ((listed.setIfInBounds i true).setIfInBounds j true)) s1 a1) :=
        H.mono hne fun s1 a1 _ h => h.2 j (ready_mono hj hji)
      obtain ⟨hjun, oj, hoj, hall⟩ := mem_ready.1 hj
      have hnot : ∀ e ∈ oj.after, Region.binds md e = true → e.on ≠ i := fun e he hb heq => by
        have h1 := hall e he hb
        have h0 := getD_both (mem_ready.1 hr).1
        rw [heq, h0] at h1
        cases h1
      have hij : i < j := by
        rcases Nat.lt_or_ge j i with h' | h'
        · rw [hlow j h'] at hjun; cases hjun
        · omega
      have hcc : mv oi = false ∨ mv oj = false := by
        cases ci : mv oi with
        | false => exact .inl rfl
        | true =>
          refine .inr ?_
          cases cj : mv oj with
          | false => rfl
          | true =>
            have h0 := getD_both (mem_ready.1 hr).1
            have := hpre.reach hall hoj (chainC_spec hch hi hoj ci cj hij)
            rw [h0] at this; cases this
      have h2 := linOp_put hex hoj (hfree j oj hoj hji hjun hnot) (fun cs b => hsel i oi cs b hi) (fun cs b => hsel j oj cs b hoj) hcc hne H1
      have hfree' : ∀ k ok, ops[k]? = some ok → k ≠ i → (listed.setIfInBounds j true).getD k true = false →
          (∀ e ∈ ok.after, Region.binds md e = true → e.on ≠ i) → oi.apart ops ok = true := fun k ok hk hki hun hno => by
        refine hfree k ok hk hki ?_ hno
        by_cases hjk : j = k
        · subst hjk; exact hjun
        · rw [getD_set_ne true hjk] at hun; exact hun
      have hlow' : ∀ m, m < i → (listed.setIfInBounds j true).getD m true = true := fun m hm => by rw [getD_set_ne true (by omega)]; exact hlow m hm
      refine linOp_mono hne (fun s' a' hne' h3 => ?_) h2
      refine ih (listed.setIfInBounds j true) s' a' hne' (hpre.next hj) hlow' hfree' (ready_mono hr (Ne.symm hji)) ?_
      rw [Array.setIfInBounds_comm _ _ hji]
      exact h3

theorem wpAnyL_lexC (hex : ∀ f args w (R' : Ending → World → Prop), Calls P f args w R' → ∃ e w', R' e w') (hch : chainC md ops = true) {Q : σ → Act → Prop} (hs : Region.noSelect ops = true) : ∀ (l : List Oper) (n : Nat) (listed : Array Bool) (s : σ) (a : Act), NE C s → Cl md ops listed → (∀ j, j < n → listed.getD j true = true) → (∀ j, l[j]? = ops[n + j]?) →
    Region.lexFrom md ops l.length n listed = true → wpLin P ops C Q l s a → wpAnyL P md ops C Q l.length listed s a
  | [], _, _, _, _, _, _, _, _, hB, h => ⟨by simpa [Region.lexFrom] using hB, h⟩
  | o :: l, n, listed, s, a, hne, hpre, hlow, hl, hB, h => by
    have h0 : ops[n]? = some o := by simpa using (hl 0).symm
    simp only [List.length_cons, Region.lexFrom, Bool.and_eq_true] at hB
    obtain ⟨⟨hr, hf⟩, hB'⟩ := hB
    have hr' : n ∈ Region.ready md ops listed := by simpa using hr
    refine wpAnyL_firstC hex hch h0 (Region.noSelect_spec hs) l.length listed s a hne hpre hlow (Region.free_spec h0 hf) hr' ?_
    refine LX.mono hne (fun s' a' hne' h' => ?_) h
    refine wpAnyL_lexC hex hch hs l (n + 1) _ _ _ hne' (hpre.next hr') (fun j hj => ?_) (fun j => by have := hl (j + 1); simpa [Nat.add_assoc, Nat.add_comm 1 j] using this) hB' h'
    by_cases hjn : n = j
    · subst hjn
      rcases Nat.lt_or_ge n listed.size with h' | h'
      · simp [h']
      · simp [h']
    · rw [getD_set_ne true hjn]; exact hlow j (by omega)

/-- **One walk of the lexical order serves every order.** -/
theorem wp_region_mc (C : σ → World → Prop) (s : σ) {id : Nat} {Q : Exit → Act → World → Prop} {a : Act} {w : World} {l : List Oper} (hm : P.follows .mixedOrders = true) (hB : Region.lexB .any l.toArray = true) (hch : chainC .any l.toArray = true) (hC : C s { w with drawn := w.drawn + 1 })
    (h : Nonempty (InW fun w => ∃ s, C s w) → wpLin P l.toArray C (fun s a' => ∀ w', C s w' → Q .normal a' w') l s a) : (Code.region id l.toArray true).wp P Q a w := by
  simp only [Region.lexB, Bool.and_eq_true] at hB
  refine wp_region_any hm (wpAny_of_lin (Q := fun s a' => ∀ w', C s w' → Q .normal a' w') (fun _ _ w' hw' h => h w' hw') _ _ s _ _ hC ?_)
  have := wpAnyL_lexC (C := C) (md := .any) calls_some hch hB.1 l 0 (Array.replicate l.toArray.size false) s a ⟨_, hC⟩ (fun j oj hj hl => by
      rcases Nat.lt_or_ge j l.toArray.size with h' | h'
      · rw [List.size_toArray] at h'; simp [h'] at hl
      · rw [List.size_toArray] at h'; simp [h'] at hl) (fun j hj => by omega) (by simp) (by simpa using hB.2) (h ⟨⟨_, s, hC⟩⟩)
  simpa using this

/-- a call whose answer is known -/
theorem lin_call {Q : σ → Act → Prop} {s : σ} {o : Oper} {rest : List Oper} {a : Act} (hw : Region.wanted o (yielded ops a.tmps) = true) (hm : mv o = true) (f : FuncId) (args : Array Value) (u : Value) (s' : σ)
    (hrun : ∀ W, (execOp a.eval o).run P W = .ok (.enter f args) W) (hcall : ∀ W, C s W → Calls P f args W fun e w' => e = .returned u ∧ C s' w') (hk : wpLin P ops C Q rest s' (a.put o.dst u)) : wpLin P ops C Q (o :: rest) s a :=
  lin_move hw hm fun w hC => by
    rw [hrun]
    exact (hcall w hC).mono fun e w' h => ⟨u, h.1, s', h.2, hk⟩
end
end Go.Proofs.YtnbmmhoofilmfaaDoor.Mv

/- XMove2's law within a fence (in a round too), for regions that read and store. -/
namespace Go.Proofs.YtnbmmhoofilmfaaDoor.Mv
open Go.RowKit Go.Proofs.YtnbmmhoofilmfaaDoor
set_option linter.unusedVariables false
/-- no calls -/
def tame (o : Oper) : Bool := match o.op with | .store _ _ _ => true | _ => plainOp o
section
variable {F : Fence} {m : Nat} {P : Program} {ops : Array Oper} {md : Region.Mode} {σ : Type} {C : σ → World → Prop}
theorem tame_no_enter {o : Oper} (ho : tame o = true) (a : Act) (w : World) (f : FuncId) (args : Array Value) (w' : World) : (execOp a.eval o).run P w ≠ .ok (.enter f args) w' := by
  unfold tame at ho
  split at ho
  · rename_i ty x y hop
    unfold execOp
    simp only [hop, Sem.run_bind]
    intro h
    cases hr : (Instr.storeAt ty (a.eval x) (a.eval y)).run P w with
    | ok u w1 => rw [hr] at h; simp [Result.andThen, Sem.run_pure] at h
    | halt e w1 => rw [hr] at h; simp [Result.andThen] at h
  · exact plain_no_enter ho a w f args w'
theorem tame_no_call {o : Oper} (ho : tame o = true) (c) : o.op ≠ .call c := by
  intro h; unfold tame at ho; rw [h] at ho; unfold plainOp at ho; rw [h] at ho; cases ho
theorem tame_no_defer {o : Oper} (ho : tame o = true) (c) : o.op ≠ .defer c := by
  intro h; unfold tame at ho; rw [h] at ho; unfold plainOp at ho; rw [h] at ho; cases ho
theorem wpOpIn_of_lin (ht : ops.all tame = true) {i : Nat} {s : σ} {a : Act} {K : σ → Act → Prop} {K' : Act → World → Prop} {Q' : Exit → Act → World → Prop} {w : World} (hC : C s w) (h : ∀ s a w', C s w' → K s a → K' a w') (hh : linOp P ops C i K s a) : wpOpIn F m P ops Q' i K' a w := by
  unfold linOp at hh
  unfold wpOpIn
  split
  · rename_i ho; simp only [ho] at hh; exact h _ _ _ hC hh
  · rename_i o ho
    simp only [ho] at hh
    have hta : tame o = true := by
      rw [Array.all_eq_true_iff_forall_mem] at ht
      exact ht o (Array.mem_of_getElem? ho)
    have hab : ∀ f, o.about P w a.eval = some f → F.fn f := by
      intro f hf
      unfold Oper.about at hf
      split at hf
      · rename_i c hc; exact absurd hc (tame_no_call hta c)
      · cases hf
    rcases hh with ⟨hw, hy⟩ | ⟨hw, hk⟩
    · simp only [hw, if_true]
      unfold Oper.wpIn
      refine ⟨hab, ?_⟩
      rw [Oper.semAt_plain F _ _ (tame_no_defer hta)]
      have hne := fun f args w' => tame_no_enter (P := P) hta a w f args w'
      rcases hy with ⟨_, hk⟩ | ⟨_, v, hs, hk⟩
      · have h3 := hk w hC
        generalize (execOp a.eval o).run P w = r at *
        cases r with
        | ok n w' =>
          cases n <;> simp only [movesUpon] at h3 <;> simp only [Oper.uponIn]
          · obtain ⟨s', h4, h5⟩ := h3; exact h _ _ _ h4 h5
          · obtain ⟨s', h4, h5⟩ := h3; exact h _ _ _ h4 h5
          · exact absurd rfl (hne _ _ _)
        | halt x w' => simp only [movesUpon] at h3
      · have h3 := hs w ⟨_, hC⟩
        generalize (execOp a.eval o).run P w = r at *
        cases r with
        | ok n w' =>
          cases n <;> simp only [stillUpon] at h3 <;> simp only [Oper.uponIn]
          · obtain ⟨rfl, rfl⟩ := h3; exact h _ _ _ hC hk
          · obtain ⟨rfl, rfl⟩ := h3; exact h _ _ _ hC hk
        | halt x w' => simp only [stillUpon] at h3
    · rw [if_neg (by rw [hw]; decide)]
      exact ⟨hab, h _ _ _ hC hk⟩
theorem wpAnyIn_of_lin (ht : ops.all tame = true) {Q : σ → Act → Prop} {Q' : Exit → Act → World → Prop} (hQ : ∀ s a w, C s w → Q s a → Q' .normal a w) : ∀ (fuel : Nat) (listed : Array Bool) (s : σ) (a : Act) (w : World), C s w →
    wpAnyL P md ops C Q fuel listed s a → wpAnyIn F m P md ops Q' fuel listed a w
  | 0, _, _, _, _, hw, h => ⟨h.1, hQ _ _ _ hw h.2⟩
  | fuel + 1, _, _, _, _, hw, h => ⟨fun h0 => hQ _ _ _ hw (h.1 h0), fun i hi => wpOpIn_of_lin ht hw (fun s' a' w' hw' => wpAnyIn_of_lin ht hQ fuel _ s' a' w' hw') (h.2 i hi)⟩
theorem wpIn_region_mc (C : σ → World → Prop) (s : σ) {id : Nat} {Q : Exit → Act → World → Prop} {a : Act} {w : World} {l : List Oper} (hm : P.follows .mixedOrders = true) (hB : Region.lexB .any l.toArray = true) (hch : chainC .any l.toArray = true) (ht : l.toArray.all tame = true) (hC : C s { w with drawn := w.drawn + 1 })
    (h : Nonempty (InW fun w => ∃ s, C s w) → wpLin P l.toArray C (fun s a' => ∀ w', C s w' → Q .normal a' w') l s a) : (Code.region id l.toArray true).wpIn F m P Q a w := by
  simp only [Region.lexB, Bool.and_eq_true] at hB
  refine wpIn_region_any hm (wpAnyIn_of_lin ht (Q := fun s a' => ∀ w', C s w' → Q .normal a' w') (fun _ _ w' hw' h => h w' hw') _ _ s _ _ hC ?_)
  have := wpAnyL_lexC (C := C) (md := .any) calls_some hch hB.1 l 0 (Array.replicate l.toArray.size false) s a ⟨_, hC⟩ (fun j oj hj hl => by
      rcases Nat.lt_or_ge j l.toArray.size with h' | h'
      · rw [List.size_toArray] at h'; simp [h'] at hl
      · rw [List.size_toArray] at h'; simp [h'] at hl) (fun j hj => by omega) (by simp) (by simpa using hB.2) (h ⟨⟨_, s, hC⟩⟩)
  simpa using this
/-- one cell is stored -/
theorem lin_store1 {Q : σ → Act → Prop} {s : σ} {o : Oper} {rest : List Oper} {a : Act} (hw : Region.wanted o (yielded ops a.tmps) = true) (ty : TypeId) (x y : Operand) (ho : o.op = .store ty x y)
    (b off : Nat) (v : Value) (hx : a.eval x = .pointer (some ⟨b, off, none⟩)) (hy : a.eval y = v) (hi : (P.info? ty).map (·.size) = some 1) (h1 : v.oneCell' = true) (s' : σ)
    (hc : ∀ w, C s w → (∃ u, w.cell? ⟨b, off, none⟩ = some u) ∧ w.frozen? ⟨b, off, none⟩ = false ∧ C s' (w.setCell ⟨b, off, none⟩ v))
    (hk : wpLin P ops C Q rest s' (a.put o.dst undef)) : wpLin P ops C Q (o :: rest) s a :=
  lin_move hw (by unfold mv plainOp; rw [ho]; rfl) fun w hC => by
    obtain ⟨⟨u, hu⟩, hf, hC'⟩ := hc w hC
    unfold execOp
    simp only [ho, hx, hy, Instr.storeAt, Instr.sureAddr, Sem.run_bind, Sem.run_pure, Result.andThen_ok, run_storeVar1 w b off ty u v hu hf hi h1]
    exact ⟨s', hC', hk⟩
end
end Go.Proofs.YtnbmmhoofilmfaaDoor.Mv
