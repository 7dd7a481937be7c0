/- Texts of this claim, merged by a program (a claim may have 60 files): U6f. -/
import Derived.Test.YtopakpmepioomaaDoorK10
/- super.WriteDescs. -/
namespace Go.Proofs.YtopakpmepioomaaDoor
open Go.RowKit
set_option linter.unusedVariables false

/-- the halves of k descriptors -/
def dH (b i d : Nat → Int) : Nat → Nat → Int
  | 0 => fun _ => 0
  | k + 1 => upd (upd (upd (dH b i d k) (4 * k) (b k)) (4 * k + 1) (i k)) (4 * k + 2) (d k)
def descOk (G S I J : Int) (n : Nat) (b i d : Nat → Int) : Bool := mayG G S I J && mayD G S I J n b i d
def descE (G S I J : Int) (n : Nat) (b i d : Nat → Int) : Int := if mayG G S I J then (if mayD G S I J n b i d then 0 else 2) else 50
def descZ (G S I J : Int) (n : Nat) (b i d : Nat → Int) : Nat → Int := if descOk G S I J n b i d then sealZ (hz (dH b i d n)) else fun _ => 0
theorem mayD_iff {G S I J : Int} {n : Nat} {b i d : Nat → Int} (hm : mayG G S I J = true) (h : mayD G S I J n b i d = true) : (n : Int) = G ∧ n ≤ 4 ∧ ∀ k, k < n → (0 ≤ b k ∧ b k ≤ 512) ∧ (0 ≤ i k ∧ i k ≤ 64) ∧ (0 ≤ d k ∧ d k ≤ 64) := by
  unfold mayD at h
  rw [Bool.and_eq_true, decide_eq_true_eq, allB_iff] at h
  obtain ⟨h1, h2, h3, h4, h5, h6, h7, h8, h9, h10, h11⟩ := (mayG_iff G S I J).1 hm
  have := nDa_bd G S I J
  refine ⟨h.1, by omega, fun k hk => ?_⟩
  have := (okD_iff _ _ _ _ _).1 (h.2 k hk)
  omega

structure WD (w : World) (G S I J : Int) (g : Nat) (z : Nat → Int) (W : World) : Prop where
  s : At W w.heap.size 23 (gcells G S I J)
  r : Blk W (w.heap.size + 1) 32 256 (fun _ => 0)
  p : Blk W g 87 256 z
  bel : Below w.heap.size w W
theorem WD.step {w : World} {G S I J : Int} {g : Nat} {z z' : Nat → Int} {W W' : World} (h : WD w G S I J g z W) (hg : w.heap.size + 2 ≤ g) (hb : W.grownBy W' (some g)) (hp : Blk W' g 87 256 z') : WD w G S I J g z' W' :=
  ⟨h.s.grown hb (fun e => by cases e; omega), h.r.grown hb (fun e => by cases e; omega), hp, h.bel.grown hb h.bel.size (fun k e => by cases e; omega)⟩
theorem WD.below {w : World} {G S I J : Int} {g : Nat} {z : Nat → Int} {W W' : World} (h : WD w G S I J g z W) (hb : Below W.heap.size W W') : WD w G S I J g z W' :=
  ⟨h.s.below hb h.s.lt, h.r.below hb h.r.lt, h.p.below hb h.p.lt, h.bel.trans (hb.mono h.bel.size)⟩

set_option maxRecDepth 100000 in
set_option maxHeartbeats 4000000 in
theorem superWriteDescs_any (G S I J : Int) (a : Option Addr) (n cap : Nat) (b i d : Nat → Int) (hn : (n : Int) ≤ 9223372036854775807) (w : World) (hT : Tab w) (hr : RRow w a 3 n (df b i d)) :
    Calls Tryd.prog 31 #[gval G S I J, .slice a n cap] w fun e w' => e = .returned (.tuple #[bval (descZ G S I J n b i d), .int .i64 (descE G S I J n b i d)]) ∧ Below w.heap.size w w' := by
  have hal := zero_block
  have halp := zero_page
  have HT := Lib.hid hT
  have HR := Lib.hid hr
  obtain ⟨W, hW⟩ : ∃ W, W = (w.alloc (.cells (gcells G S I J) 23)).alloc (.cells (Ks .u8 256 (fun _ => 0)).toArray 32) := ⟨_, rfl⟩
  have hS : At W w.heap.size 23 (gcells G S I J) := by rw [hW]; exact (At.new w _ _).alloc _
  have hRb : Blk W (w.heap.size + 1) 32 256 (fun _ => 0) := by
    rw [hW]
    have := Blk.new (w.alloc (.cells (gcells G S I J) 23)) 32 256 (fun _ => 0)
    simp only [World.size_alloc] at this
    exact this
  have hL : Below w.heap.size w W := by rw [hW]; exact ((Below.refl _ _).alloc (Nat.le_refl _) _).alloc (by simp) _
  have HW := Lib.hid hW
  clear hW hT hr
  go_enter Tryd.func31, Tryd.ntmps31
  have hS0 : At ((w.alloc (.cells (gcells G S I J) 23)).alloc (.cells (Ks .u8 256 (fun _ => 0)).toArray 32)) w.heap.size 23 (gcells G S I J) := (At.new w _ _).alloc _
  go_wp2_with (first | (refine wp_loadAtG rfl 23 (.tmp 2) rfl _ _ _ rfl hS0 Tryd.underlying23 rfl (by kernel_rfl) ?_))
  rw [← HW.out]
  clear HW hS0
  refine (geoMay_any G S I J W).mono ?_
  rintro e w1 ⟨rfl, hb1⟩
  have hS1 := hS.below hb1 hS.lt
  have hR1 := hRb.below hb1 hRb.lt
  have hL1 : Below w.heap.size w w1 := hL.trans (hb1.mono hL.size)
  clear hS hRb hL hb1
  cases hm : mayG G S I J with
  | false =>
    have HO : Hid (descOk G S I J n b i d = false ∧ descE G S I J n b i d = 50) := by show _ ∧ _; unfold descOk descE; rw [hm]; exact ⟨rfl, rfl⟩
    clear hm
    go_wp2_with (first | (refine wp_storeBlk rfl (.tmp 4) (.tmp 12) rfl (w.heap.size + 1) (fun _ => 0) _ rfl rfl hR1 ?_))
    intro w2 hR2 ho2
    go_wp2_with fail
    exact bodyPost_ret (results_blk2 rfl _ _ (w.heap.size + 1) _ rfl hR2) rfl ⟨by rw [descZ, HO.out.1, HO.out.2]; rfl, hL1.trans (ho2.below (by omega))⟩
  | true =>
  have HM := Lib.hid hm
  clear hm
  go_wp2_with (first | (refine wp_loadAtG rfl 23 (.tmp 2) rfl _ _ _ rfl hS1 Tryd.underlying23 rfl (by kernel_rfl) ?_))
  refine (superMay_any G S I J HM.out a n cap b i d hn w1 (HR.out.below (df_ne _ _ _ _) hL1)).mono ?_
  rintro e w2 ⟨rfl, hb2⟩
  have hS2 := hS1.below hb2 hS1.lt
  have hR2 := hR1.below hb2 hR1.lt
  have hL2 : Below w.heap.size w w2 := hL1.trans (hb2.mono hL1.size)
  have hsz := hR2.lt
  clear hS1 hR1 hL1 hb2
  cases ho : mayD G S I J n b i d with
  | false =>
    have HO : Hid (descOk G S I J n b i d = false ∧ descE G S I J n b i d = 2) := by
      show _ ∧ _
      unfold descOk descE; rw [HM.out, ho]; exact ⟨rfl, rfl⟩
    clear ho
    go_wp2_with (first | (refine wp_storeBlk rfl (.tmp 4) (.tmp 17) rfl (w.heap.size + 1) (fun _ => 0) _ rfl rfl hR2 ?_))
    intro w3 hR3 ho3
    go_wp2_with fail
    exact bodyPost_ret (results_blk2 rfl _ _ (w.heap.size + 1) _ rfl hR3) rfl ⟨by rw [descZ, HO.out.1, HO.out.2]; rfl, hL2.trans (ho3.below (by omega))⟩
  | true =>
  have HO : Hid (descOk G S I J n b i d = true ∧ descE G S I J n b i d = 0) := by
    show _ ∧ _
    unfold descOk descE; rw [HM.out, ho]; exact ⟨rfl, rfl⟩
  have HMD := Lib.hid (mayD_iff HM.out ho).2.2
  have hn4 := (mayD_iff HM.out ho).2.1
  clear ho
  obtain ⟨g, hg⟩ : ∃ g, g = w2.heap.size := ⟨_, rfl⟩
  have hg2 : w.heap.size + 2 ≤ g := by omega
  have st0 : Hid (WD w G S I J g (hz (dH b i d 0)) (w2.alloc (.cells (Ks .u8 256 (fun _ => 0)).toArray 87))) :=
    ⟨hS2.alloc _, hR2.alloc _, by rw [hg]; exact (Blk.new w2 _ _ _).congr fun i _ => (hz_zero i).symm, hL2.alloc hL2.size _⟩
  clear hS2 hR2 hL2 hsz
  go_wp2_with fail
  rw [← hg]
  clear hg
  go_loopw [20] (fun u wr => ∃ k : Nat, k ≤ n ∧ u = .int .i64 (k : Int) ∧ WD w G S I J g (hz (dH b i d k)) wr) (fun u _ => n - (intOf u).toNat)
  case atStart => exact ⟨0, by omega, rfl, st0.out⟩
  case round =>
    clear st0
    obtain ⟨k, hk, rfl, st⟩ := hrel
    by_cases hlt : k < n
    · have hrr := HR.out.below (df_ne _ _ _ _) st.bel
      rcases hrr with h0 | ⟨bb, off, rfl, hsg⟩
      · omega
      have r0 : wr.cell? ⟨bb, off + k * 3, none⟩ = some (.int .i64 (b k)) := hsg k hlt 0 _ rfl
      have r1 : wr.cell? ⟨bb, off + k * 3 + 1, none⟩ = some (.int .i64 (i k)) := hsg k hlt 1 _ rfl
      have r2 : wr.cell? ⟨bb, off + k * 3 + 2, none⟩ = some (.int .i64 (d k)) := hsg k hlt 2 _ rfl
      have hA := At.new wr 50 (dcells (b k) (i k) (d k))
      have d0 : (wr.alloc (.cells #[.int .i64 (b k), .int .i64 (i k), .int .i64 (d k)] 50)).cell? ⟨wr.heap.size, 0, none⟩ = some (.int .i64 (b k)) := hA.cell (i := 0) rfl
      have d1 : (wr.alloc (.cells #[.int .i64 (b k), .int .i64 (i k), .int .i64 (d k)] 50)).cell? ⟨wr.heap.size, 1, none⟩ = some (.int .i64 (i k)) := hA.cell (i := 1) rfl
      have d2 : (wr.alloc (.cells #[.int .i64 (b k), .int .i64 (i k), .int .i64 (d k)] 50)).cell? ⟨wr.heap.size, 2, none⟩ = some (.int .i64 (d k)) := hA.cell (i := 2) rfl
      have ST := Lib.hid (st.below ((Below.refl _ _).alloc (Nat.le_refl _) (.cells (dcells (b k) (i k) (d k)) 50)))
      have HB := Lib.hid (HMD.out k hlt)
      clear hsg hA st
      go_wp2_with fail
      refine (putDesc_any g (dH b i d k) k _ (b k) (i k) (d k) (by omega) (by omega) (by have := HB.out; omega) (by have := HB.out; omega) (by have := HB.out; omega) _ ST.out.p).mono ?_
      rintro e w5 ⟨⟨u, rfl⟩, hp, hgo⟩
      have st' : WD w G S I J g (hz (dH b i d (k + 1))) w5 := ST.out.step hg2 hgo hp
      clear ST hp hgo d0 d1 d2 r0 r1 r2 HB
      go_wp2_with fail
      go_roundw
      case rel => first | exact ⟨k + 1, by omega, by go_num, st'⟩ | exact ⟨k + 1, by omega, rfl, st'⟩
      case measure => simp [intOf]; omega
    · obtain rfl : k = n := by omega
      have HST := Lib.hid st
      clear st
      go_wp2_with fail
      refine (pageSeal_any g _ (hz_byt _) _ HST.out.p (HT.out.below HST.out.bel (Nat.le_refl _))).mono ?_
      rintro e w8 ⟨⟨u, rfl⟩, hp, hgo⟩
      have st6 := Lib.hid (HST.out.step hg2 hgo hp)
      clear HST hp hgo
      have hp6 := st6.out.p
      have hr6 := st6.out.r
      go_wp2_with (first | (refine wp_loadPage rfl (.tmp 32) rfl g _ rfl hp6 ?_) | (refine wp_storeBlk rfl (.tmp 4) (.tmp 33) rfl (w.heap.size + 1) (sealZ (hz (dH b i d k))) _ rfl rfl hr6 ?_))
      intro w9 hR9 ho9
      go_wp2_with fail
      exact bodyPost_ret (results_blk2 rfl _ _ (w.heap.size + 1) _ rfl hR9) rfl ⟨by rw [descZ, HO.out.1, HO.out.2]; rfl, st6.out.bel.trans (ho9.below (by omega))⟩
end Go.Proofs.YtopakpmepioomaaDoor
