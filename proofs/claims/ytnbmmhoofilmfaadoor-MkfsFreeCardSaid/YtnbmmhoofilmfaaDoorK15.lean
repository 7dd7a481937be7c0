/- Texts of this claim, merged by a program (a claim may have 60 files): U6f, Bits. -/
import Derived.Test.YtnbmmhoofilmfaaDoorK13
import Derived.Test.YtnbmmhoofilmfaaDoorK04
import Derived.Test.YtnbmmhoofilmfaaDoorK07
import Derived.Test.YtnbmmhoofilmfaaDoorK14
import Derived.Test.YtnbmmhoofilmfaaDoorK06
import Derived.Laws.BitsAllLaws
/- super.WriteDescs. -/
namespace Go.Proofs.YtnbmmhoofilmfaaDoor
open Go.RowKit
set_option linter.unusedVariables false

/-- the halves of k descriptors -/
def dH (b i d : Nat → Int) : Nat → Nat → Int
  | 0 => fun _ => 0
  | k + 1 => upd (upd (upd (dH b i d k) (4 * k) (b k)) (4 * k + 1) (i k)) (4 * k + 2) (d k)
def descOk (G S I J : Int) (n : Nat) (b i d : Nat → Int) : Bool := mayG G S I J && mayD G S I J n b i d
def descE (G S I J : Int) (n : Nat) (b i d : Nat → Int) : Int := if mayG G S I J then (if mayD G S I J n b i d then 0 else 2) else 50
def descZ (G S I J : Int) (n : Nat) (b i d : Nat → Int) : Nat → Int := if descOk G S I J n b i d then sealZ (hz (dH b i d n)) else fun _ => 0
theorem mayD_iff {G S I J : Int} {n : Nat} {b i d : Nat → Int} (hm : mayG G S I J = true) (h : mayD G S I J n b i d = true) : (n : Int) = G ∧ n ≤ 4 ∧ ∀ k, k < n → (0 ≤ b k ∧ b k ≤ 512) ∧ (0 ≤ i k ∧ i k ≤ 64) ∧ (0 ≤ d k ∧ d k ≤ 64) := by
  unfold mayD at h
  rw [Bool.and_eq_true, decide_eq_true_eq, allB_iff] at h
  obtain ⟨h1, h2, h3, h4, h5, h6, h7, h8, h9, h10, h11⟩ := (mayG_iff G S I J).1 hm
  have := nDa_bd G S I J
  refine ⟨h.1, by omega, fun k hk => ?_⟩
  have := (okD_iff _ _ _ _ _).1 (h.2 k hk)
  omega

structure WD (w : World) (G S I J : Int) (g : Nat) (z : Nat → Int) (W : World) : Prop where
  s : At W w.heap.size 23 (gcells G S I J)
  r : Blk W (w.heap.size + 1) 32 256 (fun _ => 0)
  p : Blk W g 154 256 z
  bel : Below w.heap.size w W
theorem WD.step {w : World} {G S I J : Int} {g : Nat} {z z' : Nat → Int} {W W' : World} (h : WD w G S I J g z W) (hg : w.heap.size + 2 ≤ g) (hb : W.grownBy W' (some g)) (hp : Blk W' g 154 256 z') : WD w G S I J g z' W' :=
  ⟨h.s.grown hb (fun e => by cases e; omega), h.r.grown hb (fun e => by cases e; omega), hp, h.bel.grown hb h.bel.size (fun k e => by cases e; omega)⟩
theorem WD.below {w : World} {G S I J : Int} {g : Nat} {z : Nat → Int} {W W' : World} (h : WD w G S I J g z W) (hb : Below W.heap.size W W') : WD w G S I J g z W' :=
  ⟨h.s.below hb h.s.lt, h.r.below hb h.r.lt, h.p.below hb h.p.lt, h.bel.trans (hb.mono h.bel.size)⟩

set_option maxRecDepth 100000 in
set_option maxHeartbeats 4000000 in
theorem superWriteDescs_any (G S I J : Int) (a : Option Addr) (n cap : Nat) (b i d : Nat → Int) (hn : (n : Int) ≤ 9223372036854775807) (w : World) (hT : Tab w) (hr : RRow w a 3 n (df b i d)) :
    Calls Tryd.prog 37 #[gval G S I J, .slice a n cap] w fun e w' => e = .returned (.tuple #[bval (descZ G S I J n b i d), .int .i64 (descE G S I J n b i d)]) ∧ Below w.heap.size w w' := by
  have hal := zero_block
  have halp := zero_page
  have HT := Lib.hid hT
  have HR := Lib.hid hr
  obtain ⟨W, hW⟩ : ∃ W, W = (w.alloc (.cells (gcells G S I J) 23)).alloc (.cells (Ks .u8 256 (fun _ => 0)).toArray 32) := ⟨_, rfl⟩
  have hS : At W w.heap.size 23 (gcells G S I J) := by rw [hW]; exact (At.new w _ _).alloc _
  have hRb : Blk W (w.heap.size + 1) 32 256 (fun _ => 0) := by
    rw [hW]
    have := Blk.new (w.alloc (.cells (gcells G S I J) 23)) 32 256 (fun _ => 0)
    simp only [World.size_alloc] at this
    exact this
  have hL : Below w.heap.size w W := by rw [hW]; exact ((Below.refl _ _).alloc (Nat.le_refl _) _).alloc (by simp) _
  have HW := Lib.hid hW
  clear hW hT hr
  go_enter Tryd.func37, Tryd.ntmps37
  have hS0 : At ((w.alloc (.cells (gcells G S I J) 23)).alloc (.cells (Ks .u8 256 (fun _ => 0)).toArray 32)) w.heap.size 23 (gcells G S I J) := (At.new w _ _).alloc _
  go_wp2_with (first | (refine wp_loadAtG rfl 23 (.tmp 2) rfl _ _ _ rfl hS0 Tryd.underlying23 rfl (by kernel_rfl) ?_))
  rw [← HW.out]
  clear HW hS0
  refine (geoMay_any G S I J W).mono ?_
  rintro e w1 ⟨rfl, hb1⟩
  have hS1 := hS.below hb1 hS.lt
  have hR1 := hRb.below hb1 hRb.lt
  have hL1 : Below w.heap.size w w1 := hL.trans (hb1.mono hL.size)
  clear hS hRb hL hb1
  cases hm : mayG G S I J with
  | false =>
    have HO : Hid (descOk G S I J n b i d = false ∧ descE G S I J n b i d = 50) := by show _ ∧ _; unfold descOk descE; rw [hm]; exact ⟨rfl, rfl⟩
    clear hm
    go_wp2_with (first | (refine wp_storeBlk rfl (.tmp 4) (.tmp 12) rfl (w.heap.size + 1) (fun _ => 0) _ rfl rfl hR1 ?_))
    intro w2 hR2 ho2
    go_wp2_with fail
    exact bodyPost_ret (results_blk2 rfl _ _ (w.heap.size + 1) _ rfl hR2) rfl ⟨by rw [descZ, HO.out.1, HO.out.2]; rfl, hL1.trans (ho2.below (by omega))⟩
  | true =>
  have HM := Lib.hid hm
  clear hm
  go_wp2_with (first | (refine wp_loadAtG rfl 23 (.tmp 2) rfl _ _ _ rfl hS1 Tryd.underlying23 rfl (by kernel_rfl) ?_))
  refine (superMay_any G S I J HM.out a n cap b i d hn w1 (HR.out.below (df_ne _ _ _ _) hL1)).mono ?_
  rintro e w2 ⟨rfl, hb2⟩
  have hS2 := hS1.below hb2 hS1.lt
  have hR2 := hR1.below hb2 hR1.lt
  have hL2 : Below w.heap.size w w2 := hL1.trans (hb2.mono hL1.size)
  have hsz := hR2.lt
  clear hS1 hR1 hL1 hb2
  cases ho : mayD G S I J n b i d with
  | false =>
    have HO : Hid (descOk G S I J n b i d = false ∧ descE G S I J n b i d = 2) := by
      show _ ∧ _
      unfold descOk descE; rw [HM.out, ho]; exact ⟨rfl, rfl⟩
    clear ho
    go_wp2_with (first | (refine wp_storeBlk rfl (.tmp 4) (.tmp 17) rfl (w.heap.size + 1) (fun _ => 0) _ rfl rfl hR2 ?_))
    intro w3 hR3 ho3
    go_wp2_with fail
    exact bodyPost_ret (results_blk2 rfl _ _ (w.heap.size + 1) _ rfl hR3) rfl ⟨by rw [descZ, HO.out.1, HO.out.2]; rfl, hL2.trans (ho3.below (by omega))⟩
  | true =>
  have HO : Hid (descOk G S I J n b i d = true ∧ descE G S I J n b i d = 0) := by
    show _ ∧ _
    unfold descOk descE; rw [HM.out, ho]; exact ⟨rfl, rfl⟩
  have HMD := Lib.hid (mayD_iff HM.out ho).2.2
  have hn4 := (mayD_iff HM.out ho).2.1
  clear ho
  obtain ⟨g, hg⟩ : ∃ g, g = w2.heap.size := ⟨_, rfl⟩
  have hg2 : w.heap.size + 2 ≤ g := by omega
  have st0 : Hid (WD w G S I J g (hz (dH b i d 0)) (w2.alloc (.cells (Ks .u8 256 (fun _ => 0)).toArray 154))) :=
    ⟨hS2.alloc _, hR2.alloc _, by rw [hg]; exact (Blk.new w2 _ _ _).congr fun i _ => (hz_zero i).symm, hL2.alloc hL2.size _⟩
  clear hS2 hR2 hL2 hsz
  go_wp2_with fail
  rw [← hg]
  clear hg
  go_loopw [20] (fun u wr => ∃ k : Nat, k ≤ n ∧ u = .int .i64 (k : Int) ∧ WD w G S I J g (hz (dH b i d k)) wr) (fun u _ => n - (intOf u).toNat)
  case atStart => exact ⟨0, by omega, rfl, st0.out⟩
  case round =>
    clear st0
    obtain ⟨k, hk, rfl, st⟩ := hrel
    by_cases hlt : k < n
    · have hrr := HR.out.below (df_ne _ _ _ _) st.bel
      rcases hrr with h0 | ⟨bb, off, rfl, hsg⟩
      · omega
      have r0 : wr.cell? ⟨bb, off + k * 3, none⟩ = some (.int .i64 (b k)) := hsg k hlt 0 _ rfl
      have r1 : wr.cell? ⟨bb, off + k * 3 + 1, none⟩ = some (.int .i64 (i k)) := hsg k hlt 1 _ rfl
      have r2 : wr.cell? ⟨bb, off + k * 3 + 2, none⟩ = some (.int .i64 (d k)) := hsg k hlt 2 _ rfl
      have hA := At.new wr 74 (dcells (b k) (i k) (d k))
      have d0 : (wr.alloc (.cells #[.int .i64 (b k), .int .i64 (i k), .int .i64 (d k)] 74)).cell? ⟨wr.heap.size, 0, none⟩ = some (.int .i64 (b k)) := hA.cell (i := 0) rfl
      have d1 : (wr.alloc (.cells #[.int .i64 (b k), .int .i64 (i k), .int .i64 (d k)] 74)).cell? ⟨wr.heap.size, 1, none⟩ = some (.int .i64 (i k)) := hA.cell (i := 1) rfl
      have d2 : (wr.alloc (.cells #[.int .i64 (b k), .int .i64 (i k), .int .i64 (d k)] 74)).cell? ⟨wr.heap.size, 2, none⟩ = some (.int .i64 (d k)) := hA.cell (i := 2) rfl
      have ST := Lib.hid (st.below ((Below.refl _ _).alloc (Nat.le_refl _) (.cells (dcells (b k) (i k) (d k)) 74)))
      have HB := Lib.hid (HMD.out k hlt)
      clear hsg hA st
      go_wp2_with fail
      refine (putDesc_any g (dH b i d k) k _ (b k) (i k) (d k) (by omega) (by omega) (by have := HB.out; omega) (by have := HB.out; omega) (by have := HB.out; omega) _ ST.out.p).mono ?_
      rintro e w5 ⟨⟨u, rfl⟩, hp, hgo⟩
      have st' : WD w G S I J g (hz (dH b i d (k + 1))) w5 := ST.out.step hg2 hgo hp
      clear ST hp hgo d0 d1 d2 r0 r1 r2 HB
      go_wp2_with fail
      go_roundw
      case rel => first | exact ⟨k + 1, by omega, by go_num, st'⟩ | exact ⟨k + 1, by omega, rfl, st'⟩
      case measure => simp [intOf]; omega
    · obtain rfl : k = n := by omega
      have HST := Lib.hid st
      clear st
      go_wp2_with fail
      refine (pageSeal_any g _ (hz_byt _) _ HST.out.p (HT.out.below HST.out.bel (Nat.le_refl _))).mono ?_
      rintro e w8 ⟨⟨u, rfl⟩, hp, hgo⟩
      have st6 := Lib.hid (HST.out.step hg2 hgo hp)
      clear HST hp hgo
      have hp6 := st6.out.p
      have hr6 := st6.out.r
      go_wp2_with (first | (refine wp_loadPage rfl (.tmp 32) rfl g _ rfl hp6 ?_) | (refine wp_storeBlk rfl (.tmp 4) (.tmp 33) rfl (w.heap.size + 1) (sealZ (hz (dH b i d k))) _ rfl rfl hr6 ?_))
      intro w9 hR9 ho9
      go_wp2_with fail
      exact bodyPost_ret (results_blk2 rfl _ _ (w.heap.size + 1) _ rfl hR9) rfl ⟨by rw [descZ, HO.out.1, HO.out.2]; rfl, st6.out.bel.trans (ho9.below (by omega))⟩
end Go.Proofs.YtnbmmhoofilmfaaDoor

/- bits.is, bits.mask, bits.Set; mkfs.bitmap. -/
namespace Go.Proofs.YtnbmmhoofilmfaaDoor
open Go.RowKit
set_option linter.unusedVariables false

theorem bitIs_any (i : Nat) (hi : i < 2048) (w : World) : Calls Tryd.prog 126 #[.int .i64 (i : Int)] w fun e w' => e = .returned (.bool true) ∧ w = w' := by
  have h1 : (i : Int) < 2048 := by omega
  have h2 : decide ((i : Int) < 2048) = true := decide_eq_true h1
  have h0 : (0 : Int) ≤ (i : Int) := by omega
  have h3 : decide ((0 : Int) ≤ (i : Int)) = true := decide_eq_true h0
  go_enter Tryd.func126, Tryd.ntmps126
  go_wp2_with fail
  go_ret
  exact ⟨rfl, rfl⟩
theorem u8_pow (j : Nat) (hj : j < 8) : (2 : Int) ^ j % 256 = ((2 ^ j : Nat) : Int) := by
  have : j = 0 ∨ j = 1 ∨ j = 2 ∨ j = 3 ∨ j = 4 ∨ j = 5 ∨ j = 6 ∨ j = 7 := by omega
  rcases this with rfl | rfl | rfl | rfl | rfl | rfl | rfl | rfl <;> rfl
theorem bitMask_any (i : Nat) (hi : i < 2048) (w : World) : Calls Tryd.prog 66 #[.int .i64 (i : Int)] w fun e w' => e = .returned (.int .u8 ((2 ^ (i % 8) : Nat) : Int)) ∧ w = w' := by
  have h0 : (i : Int).tmod 8 = (i : Int) % 8 := Int.tmod_eq_emod_of_nonneg (by omega)
  have hq := u8_pow (i % 8) (Nat.mod_lt _ (by decide))
  have HQ := Lib.hid hq
  clear hq
  go_enter Tryd.func66, Tryd.ntmps66
  go_wp2_with fail
  go_ret
  exact ⟨by rw [← HQ.out]; rfl, rfl⟩
theorem pow_lt8 (i : Nat) : 2 ^ (i % 8) < 256 := by
  have : i % 8 = 0 ∨ i % 8 = 1 ∨ i % 8 = 2 ∨ i % 8 = 3 ∨ i % 8 = 4 ∨ i % 8 = 5 ∨ i % 8 = 6 ∨ i % 8 = 7 := by omega
  rcases this with h | h | h | h | h | h | h | h <;> (rw [h]; decide)
/-- the pointer's block -/
structure BsS (g : Nat) (P : Nat → Bool) (W0 W : World) : Prop where
  b : Blk W g 32 256 (bZ P)
  d : ∃ m, W = W0.drewN m
set_option maxRecDepth 100000 in
set_option maxHeartbeats 2000000 in
theorem bitSet_any (g i : Nat) (hi : i < 2048) (P : Nat → Bool) (hP : P i = false) (w : World) (hB : Blk w g 32 256 (bZ P)) :
    Calls Tryd.prog 82 #[.pointer (some ⟨g, 0, none⟩), .int .i64 (i : Int)] w fun e w' => e = .returned (.bool true) ∧ Blk w' g 32 256 (bZ (setB P i)) ∧ Only g w w' := by
  have h0 : (i : Int).tdiv 8 = ((i / 8 : Nat) : Int) := by rw [Int.tdiv_eq_ediv_of_nonneg (by omega)]; omega
  have h1 : (0 : Int) ≤ ((i / 8 : Nat) : Int) := by omega
  have h2 : ((i / 8 : Nat) : Int) < 256 := by omega
  have ha : Hid (bits .and .u8 (bZ P (i / 8)) ((2 ^ (i % 8) : Nat) : Int) = 0) := by
    show _ = _
    have e := by8_and P (i / 8) (i % 8) (Nat.mod_lt _ (by decide))
    rw [show 8 * (i / 8) + i % 8 = i by omega, hP] at e
    unfold bZ
    rw [u8_and_nat _ _ (by8_lt _ _) (pow_lt8 i), e]
    rfl
  have ho : Hid (bits .or .u8 (bZ P (i / 8)) ((2 ^ (i % 8) : Nat) : Int) = bZ (setB P i) (i / 8)) := by
    show _ = _
    unfold bZ
    rw [u8_or_nat _ _ (by8_lt _ _) (pow_lt8 i), by8_or _ _ _ (Nat.mod_lt _ (by decide)), show 8 * (i / 8) + i % 8 = i by omega]
  have st : BsS g P w w := ⟨hB, 0, rfl⟩
  have hi8 : i / 8 < 256 := by omega
  have HMK : Hid (∀ W, Calls Tryd.prog 66 #[.int .i64 (i : Int)] W fun e w' => e = .returned (.int .u8 ((2 ^ (i % 8) : Nat) : Int)) ∧ W = w') := fun W => bitMask_any i hi W
  generalize ((2 ^ (i % 8) : Nat) : Int) = M at *
  generalize hk : i / 8 = k at *
  go_enter Tryd.func82, Tryd.ntmps82
  go_wp2_with fail
  refine wp_region_S (BsS g P w) (by kernel_rfl) (by kernel_rfl) ⟨st.b, 1, rfl⟩ ?_
  intro hne
  have hc : ∀ y : InW (BsS g P w), y.W.cell? ⟨g, k, none⟩ = some (.int .u8 (bZ P k)) := fun y => by have := y.h.b.seg k hi8; rwa [Nat.zero_add] at this
  first | go_big_quiet_skip | (go_big_quiet_want; go_big_quiet_op; go_big_quiet_on)
  first | go_big_quiet_skip | (go_big_quiet_want; go_big_quiet_op; go_big_quiet_on)
  first | go_big_quiet_skip | (go_big_quiet_want; go_big_quiet_op; go_big_quiet_on)
  first | go_big_quiet_skip | (go_big_quiet_want; go_big_quiet_op; go_big_quiet_on)
  go_big_quiet_want
  go_big_quiet_op
  refine ⟨_, fun s => q_call s (fun W hW => (bitIs_any i hi W).mono fun e w' h => ⟨h.1, h.2 ▸ hW⟩), ?_⟩
  go_big_quiet_on
  first | go_big_quiet_skip | (go_big_quiet_want; go_big_quiet_op; go_big_quiet_on)
  first | go_big_quiet_skip | (go_big_quiet_want; go_big_quiet_op; go_big_quiet_on)
  first | go_big_quiet_skip | (go_big_quiet_want; go_big_quiet_op; go_big_quiet_on)
  first | go_big_quiet_skip | (go_big_quiet_want; go_big_quiet_op; go_big_quiet_on)
  first | go_big_quiet_skip | (go_big_quiet_want; go_big_quiet_op; go_big_quiet_on)
  first | go_big_quiet_skip | (go_big_quiet_want; go_big_quiet_op; go_big_quiet_on)
  first | go_big_quiet_skip | (go_big_quiet_want; go_big_quiet_op; go_big_quiet_on)
  first | go_big_quiet_skip | (go_big_quiet_want; go_big_quiet_op; go_big_quiet_on)
  first | go_big_quiet_skip | (go_big_quiet_want; go_big_quiet_op; go_big_quiet_on)
  first | go_big_quiet_skip | (go_big_quiet_want; go_big_quiet_op; go_big_quiet_on)
  go_big_quiet_want
  go_big_quiet_op
  refine ⟨_, fun s => q_call s (fun W hW => (HMK.out W).mono fun e w' h => ⟨h.1, h.2 ▸ hW⟩), ?_⟩
  go_big_quiet_on
  have ha' := ha.out
  first | go_big_quiet_skip | (go_big_quiet_want; go_big_quiet_op; go_big_quiet_on)
  first | go_big_quiet_skip | (go_big_quiet_want; go_big_quiet_op; go_big_quiet_on)
  first | go_big_quiet_skip | (go_big_quiet_want; go_big_quiet_op; go_big_quiet_on)
  refine wpQuiet_nil ?_
  intro w5 h5
  obtain ⟨m5, hm5⟩ := h5.out.d
  have st5 := h5.out.b
  clear h5 hne hc ha' st
  go_wp2_with fail
  refine wp_region_bar2 (BsS g P w) 11 (by kernel_rfl) (by kernel_rfl) (by kernel_rfl) (by kernel_rfl) (by kernel_rfl) (by decide) ⟨st5, m5 + 1, by rw [hm5]; rfl⟩ ?_
  simp only [List.take_succ_cons, List.take_zero, List.drop_succ_cons, List.drop_zero]
  intro hne
  have hc : ∀ y : InW (BsS g P w), y.W.cell? ⟨g, k, none⟩ = some (.int .u8 (bZ P k)) := fun y => by have := y.h.b.seg k hi8; rwa [Nat.zero_add] at this
  first | go_big_quiet_skip | (go_big_quiet_want; go_big_quiet_op; go_big_quiet_on)
  first | go_big_quiet_skip | (go_big_quiet_want; go_big_quiet_op; go_big_quiet_on)
  first | go_big_quiet_skip | (go_big_quiet_want; go_big_quiet_op; go_big_quiet_on)
  first | go_big_quiet_skip | (go_big_quiet_want; go_big_quiet_op; go_big_quiet_on)
  first | go_big_quiet_skip | (go_big_quiet_want; go_big_quiet_op; go_big_quiet_on)
  first | go_big_quiet_skip | (go_big_quiet_want; go_big_quiet_op; go_big_quiet_on)
  first | go_big_quiet_skip | (go_big_quiet_want; go_big_quiet_op; go_big_quiet_on)
  go_big_quiet_want
  go_big_quiet_op
  refine ⟨_, fun s => q_call s (fun W hW => (HMK.out W).mono fun e w' h => ⟨h.1, h.2 ▸ hW⟩), ?_⟩
  go_big_quiet_on
  have ho' := ho.out
  first | go_big_quiet_skip | (go_big_quiet_want; go_big_quiet_op; go_big_quiet_on)
  first | go_big_quiet_skip | (go_big_quiet_want; go_big_quiet_op; go_big_quiet_on)
  first | go_big_quiet_skip | (go_big_quiet_want; go_big_quiet_op; go_big_quiet_on)
  refine wpQuiet_nil ?_
  intro w6 h6
  have st6 := h6.out
  clear h6 hne hc ho'
  obtain ⟨m6, hm6⟩ := st6.d
  have hB6 := st6.b
  go_wp2_with (first | (refine wp_storeByte rfl (.tmp 34) (.tmp 32) rfl g k (bZ (setB P i) k) rfl rfl hB6 hi8 ?_))
  intro w7 hB7 ho7
  go_wp2_with fail
  go_ret
  have hd : Only g w (w.drewN m6) := (Only.refl _ _).drewN m6
  refine ⟨rfl, hB7.congr fun j hj => ?_, hd.trans ho7⟩
  unfold over
  by_cases e : j = k
  · subst e; rw [if_pos (by omega)]
  · rw [if_neg (by omega)]
    unfold bZ
    rw [by8_other P (by omega)]
def mapB (used size : Nat) (i : Nat) : Bool := decide (i < used) || (decide (size ≤ i) && decide (i < 2048))
/-- up to here the bits are set -/
def preB (n : Nat) (i : Nat) : Bool := decide (i < n)
def midB (used size k : Nat) (i : Nat) : Bool := decide (i < used) || (decide (size ≤ i) && decide (i < k))
theorem preB_set (n : Nat) : setB (preB n) n = preB (n + 1) := by
  funext j; unfold setB preB
  by_cases e : j = n
  · rw [if_pos e, e]; simp
  · rw [if_neg e]; simp; omega
theorem midB_set {used size k : Nat} (h : size ≤ k) : setB (midB used size k) k = midB used size (k + 1) := by
  funext j; unfold setB midB
  by_cases e : j = k
  · rw [if_pos e, e]; simp; omega
  · rw [if_neg e, Bool.eq_iff_iff]; simp; omega
theorem midB_start (used size : Nat) : midB used size size = preB used := by
  funext j; unfold midB preB; rw [Bool.eq_iff_iff]; simp; omega
structure BmS (w : World) (P : Nat → Bool) (W : World) : Prop where
  r : Blk W w.heap.size 32 256 (fun _ => 0)
  b : Blk W (w.heap.size + 1) 32 256 (bZ P)
  bel : Below w.heap.size w W
set_option maxRecDepth 100000 in
set_option maxHeartbeats 2000000 in
theorem bitmap_any (used size : Nat) (h1 : used ≤ size) (h2 : size ≤ 2048) (w : World) :
    Calls Tryd.prog 40 #[.int .i64 (used : Int), .int .i64 (size : Int)] w fun e w' => e = .returned (bval (bZ (mapB used size))) ∧ Below w.heap.size w w' := by
  have hal := zero_block
  have st : Hid (BmS w (preB 0) ((w.alloc (.cells (Ks .u8 256 (fun _ => 0)).toArray 32)).alloc (.cells (Ks .u8 256 (fun _ => 0)).toArray 32))) := by
    refine ⟨(Blk.new w _ _ _).alloc _, ?_, ((Below.refl _ _).alloc (Nat.le_refl _) _).alloc (by simp) _⟩
    have := Blk.new (w.alloc (.cells (Ks .u8 256 (fun _ => 0)).toArray 32)) 32 256 (fun _ => 0)
    simp only [World.size_alloc] at this
    exact this.congr fun i _ => rfl
  go_enter Tryd.func40, Tryd.ntmps40
  go_wp2_with fail
  go_loopw [6, 9] (fun v u wr => ∃ k : Nat, k ≤ used ∧ u = .int .i64 (k : Int) ∧ BmS w (preB k) wr) (fun _ u _ => used - (intOf u).toNat)
  case atStart => exact ⟨0, by omega, rfl, st.out⟩
  case round =>
    clear st
    obtain ⟨k, hk, rfl, st⟩ := hrel
    by_cases hlt : k < used
    · have hlt' : (k : Int) < (used : Int) := by omega
      go_wp2_with fail
      refine (bitSet_any (w.heap.size + 1) k (by omega) (preB k) (by unfold preB; simp) _ st.b).mono ?_
      rintro e w5 ⟨rfl, hB5, ho5⟩
      rw [preB_set] at hB5
      have st5 : BmS w (preB (k + 1)) w5 := ⟨st.r.only ho5 (by omega), hB5, st.bel.trans (ho5.below (by omega))⟩
      clear st hB5 ho5
      go_wp2_with fail
      go_roundw
      case rel => first | exact ⟨k + 1, by omega, by go_num, st5⟩ | exact ⟨k + 1, by omega, rfl, st5⟩
      case measure => simp [intOf]; omega
    · obtain rfl : k = used := by omega
      have hs := st.b
      rw [← midB_start k size] at hs
      have st0 : Hid (BmS w (midB k size size) wr) := ⟨st.r, hs, st.bel⟩
      clear st hs
      go_wp2_with fail
      go_loopw [7] (fun u wr => ∃ i : Nat, size ≤ i ∧ i ≤ 2048 ∧ u = .int .i64 (i : Int) ∧ BmS w (midB k size i) wr) (fun u _ => 2048 - (intOf u).toNat)
      case atStart => exact ⟨size, by omega, h2, rfl, st0.out⟩
      case round =>
        clear st0
        obtain ⟨i, hi1, hi2, rfl, st⟩ := hrel
        by_cases hlt3 : i < 2048
        · have hlt4 : (i : Int) < 2048 := by omega
          go_wp2_with fail
          refine (bitSet_any (w.heap.size + 1) i hlt3 (midB k size i) (by unfold midB; simp; omega) _ st.b).mono ?_
          rintro e w5 ⟨rfl, hB5, ho5⟩
          rw [midB_set hi1] at hB5
          have st5 : BmS w (midB k size (i + 1)) w5 := ⟨st.r.only ho5 (by omega), hB5, st.bel.trans (ho5.below (by omega))⟩
          clear st hB5 ho5
          go_wp2_with fail
          go_roundw
          case rel => first | exact ⟨i + 1, by omega, by omega, by go_num, st5⟩ | exact ⟨i + 1, by omega, by omega, rfl, st5⟩
          case measure => simp [intOf]; omega
        · obtain rfl : i = 2048 := by omega
          have hb := st.b
          have hr := st.r
          go_wp2_with (first | (refine wp_loadBlkG rfl (.tmp 5) rfl (w.heap.size + 1) _ rfl hb ?_) | (refine wp_storeBlk rfl (.tmp 4) (.tmp 22) rfl w.heap.size (bZ (midB k size 2048)) _ rfl rfl hr ?_))
          intro w7 hR7 ho7
          go_wp2_with fail
          exact bodyPost_ret (results_blk rfl _ _ w.heap.size _ rfl hR7) rfl ⟨rfl, st.bel.trans (ho7.below (Nat.le_refl _))⟩
end Go.Proofs.YtnbmmhoofilmfaaDoor
