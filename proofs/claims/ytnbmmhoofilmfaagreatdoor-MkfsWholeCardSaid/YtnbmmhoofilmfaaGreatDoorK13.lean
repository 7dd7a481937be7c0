/- Texts of this claim, merged by a program (a claim may have 60 files): U6f, RwA, AtN, U6g, AtM, RangeK, Pk5. -/
import Derived.Test.YtnbmmhoofilmfaaGreatDoorK12
import Derived.Test.YtnbmmhoofilmfaaGreatDoorK10
import Derived.Test.YtnbmmhoofilmfaaGreatDoorK05
import Derived.Deep.OwnRows
import Derived.Deep.MidRow
import Derived.Test.YtnbmmhoofilmfaaGreatDoorK11
import Derived.Test.YtnbmmhoofilmfaaGreatDoorK08
import Derived.Test.YtnbmmhoofilmfaaGreatDoorK04
import Derived.Shelf.Abstract
import Derived.TacticsInMore
import Derived.LoopNIn
import Derived.LoopIn
/- super.WriteDescs. -/
namespace Go.Proofs.YtnbmmhoofilmfaaGreatDoor
open Go.RowKit
set_option linter.unusedVariables false

/-- the halves of k descriptors -/
def dH (b i d : Nat → Int) : Nat → Nat → Int
  | 0 => fun _ => 0
  | k + 1 => upd (upd (upd (dH b i d k) (4 * k) (b k)) (4 * k + 1) (i k)) (4 * k + 2) (d k)
def descOk (G S I J : Int) (n : Nat) (b i d : Nat → Int) : Bool := mayG G S I J && mayD G S I J n b i d
def descE (G S I J : Int) (n : Nat) (b i d : Nat → Int) : Int := if mayG G S I J then (if mayD G S I J n b i d then 0 else 2) else 50
def descZ (G S I J : Int) (n : Nat) (b i d : Nat → Int) : Nat → Int := if descOk G S I J n b i d then sealZ (hz (dH b i d n)) else fun _ => 0
theorem mayD_iff {G S I J : Int} {n : Nat} {b i d : Nat → Int} (hm : mayG G S I J = true) (h : mayD G S I J n b i d = true) : (n : Int) = G ∧ n ≤ 4 ∧ ∀ k, k < n → (0 ≤ b k ∧ b k ≤ 512) ∧ (0 ≤ i k ∧ i k ≤ 64) ∧ (0 ≤ d k ∧ d k ≤ 64) := by
  unfold mayD at h
  rw [Bool.and_eq_true, decide_eq_true_eq, allB_iff] at h
  obtain ⟨h1, h2, h3, h4, h5, h6, h7, h8, h9, h10, h11⟩ := (mayG_iff G S I J).1 hm
  have := nDa_bd G S I J
  refine ⟨h.1, by omega, fun k hk => ?_⟩
  have := (okD_iff _ _ _ _ _).1 (h.2 k hk)
  omega

structure WD (w : World) (G S I J : Int) (g : Nat) (z : Nat → Int) (W : World) : Prop where
  s : At W w.heap.size 23 (gcells G S I J)
  r : Blk W (w.heap.size + 1) 32 256 (fun _ => 0)
  p : Blk W g 117 256 z
  bel : Below w.heap.size w W
theorem WD.step {w : World} {G S I J : Int} {g : Nat} {z z' : Nat → Int} {W W' : World} (h : WD w G S I J g z W) (hg : w.heap.size + 2 ≤ g) (hb : W.grownBy W' (some g)) (hp : Blk W' g 117 256 z') : WD w G S I J g z' W' :=
  ⟨h.s.grown hb (fun e => by cases e; omega), h.r.grown hb (fun e => by cases e; omega), hp, h.bel.grown hb h.bel.size (fun k e => by cases e; omega)⟩
theorem WD.below {w : World} {G S I J : Int} {g : Nat} {z : Nat → Int} {W W' : World} (h : WD w G S I J g z W) (hb : Below W.heap.size W W') : WD w G S I J g z W' :=
  ⟨h.s.below hb h.s.lt, h.r.below hb h.r.lt, h.p.below hb h.p.lt, h.bel.trans (hb.mono h.bel.size)⟩

set_option maxRecDepth 100000 in
set_option maxHeartbeats 4000000 in
theorem superWriteDescs_any (G S I J : Int) (a : Option Addr) (n cap : Nat) (b i d : Nat → Int) (hn : (n : Int) ≤ 9223372036854775807) (w : World) (hT : Tab w) (hr : RRow w a 3 n (df b i d)) :
    Calls Tryz.prog 66 #[gval G S I J, .slice a n cap] w fun e w' => e = .returned (.tuple #[bval (descZ G S I J n b i d), .int .i64 (descE G S I J n b i d)]) ∧ Below w.heap.size w w' := by
  have hal := zero_block
  have halp := zero_page
  have HT := Lib.hid hT
  have HR := Lib.hid hr
  obtain ⟨W, hW⟩ : ∃ W, W = (w.alloc (.cells (gcells G S I J) 23)).alloc (.cells (Ks .u8 256 (fun _ => 0)).toArray 32) := ⟨_, rfl⟩
  have hS : At W w.heap.size 23 (gcells G S I J) := by rw [hW]; exact (At.new w _ _).alloc _
  have hRb : Blk W (w.heap.size + 1) 32 256 (fun _ => 0) := by
    rw [hW]
    have := Blk.new (w.alloc (.cells (gcells G S I J) 23)) 32 256 (fun _ => 0)
    simp only [World.size_alloc] at this
    exact this
  have hL : Below w.heap.size w W := by rw [hW]; exact ((Below.refl _ _).alloc (Nat.le_refl _) _).alloc (by simp) _
  have HW := Lib.hid hW
  clear hW hT hr
  go_enter Tryz.func66, Tryz.ntmps66
  have hS0 : At ((w.alloc (.cells (gcells G S I J) 23)).alloc (.cells (Ks .u8 256 (fun _ => 0)).toArray 32)) w.heap.size 23 (gcells G S I J) := (At.new w _ _).alloc _
  go_wp2_with (first | (refine wp_loadAtG rfl 23 (.tmp 2) rfl _ _ _ rfl hS0 Tryz.underlying23 rfl (by kernel_rfl) ?_))
  rw [← HW.out]
  clear HW hS0
  refine (geoMay_any G S I J W).mono ?_
  rintro e w1 ⟨rfl, hb1⟩
  have hS1 := hS.below hb1 hS.lt
  have hR1 := hRb.below hb1 hRb.lt
  have hL1 : Below w.heap.size w w1 := hL.trans (hb1.mono hL.size)
  clear hS hRb hL hb1
  cases hm : mayG G S I J with
  | false =>
    have HO : Hid (descOk G S I J n b i d = false ∧ descE G S I J n b i d = 50) := by show _ ∧ _; unfold descOk descE; rw [hm]; exact ⟨rfl, rfl⟩
    clear hm
    go_wp2_with (first | (refine wp_storeBlk rfl (.tmp 4) (.tmp 12) rfl (w.heap.size + 1) (fun _ => 0) _ rfl rfl hR1 ?_))
    intro w2 hR2 ho2
    go_wp2_with fail
    exact bodyPost_ret (results_blk2 rfl _ _ (w.heap.size + 1) _ rfl hR2) rfl ⟨by rw [descZ, HO.out.1, HO.out.2]; rfl, hL1.trans (ho2.below (by omega))⟩
  | true =>
  have HM := Lib.hid hm
  clear hm
  go_wp2_with (first | (refine wp_loadAtG rfl 23 (.tmp 2) rfl _ _ _ rfl hS1 Tryz.underlying23 rfl (by kernel_rfl) ?_))
  refine (superMay_any G S I J HM.out a n cap b i d hn w1 (HR.out.below (df_ne _ _ _ _) hL1)).mono ?_
  rintro e w2 ⟨rfl, hb2⟩
  have hS2 := hS1.below hb2 hS1.lt
  have hR2 := hR1.below hb2 hR1.lt
  have hL2 : Below w.heap.size w w2 := hL1.trans (hb2.mono hL1.size)
  have hsz := hR2.lt
  clear hS1 hR1 hL1 hb2
  cases ho : mayD G S I J n b i d with
  | false =>
    have HO : Hid (descOk G S I J n b i d = false ∧ descE G S I J n b i d = 2) := by
      show _ ∧ _
      unfold descOk descE; rw [HM.out, ho]; exact ⟨rfl, rfl⟩
    clear ho
    go_wp2_with (first | (refine wp_storeBlk rfl (.tmp 4) (.tmp 17) rfl (w.heap.size + 1) (fun _ => 0) _ rfl rfl hR2 ?_))
    intro w3 hR3 ho3
    go_wp2_with fail
    exact bodyPost_ret (results_blk2 rfl _ _ (w.heap.size + 1) _ rfl hR3) rfl ⟨by rw [descZ, HO.out.1, HO.out.2]; rfl, hL2.trans (ho3.below (by omega))⟩
  | true =>
  have HO : Hid (descOk G S I J n b i d = true ∧ descE G S I J n b i d = 0) := by
    show _ ∧ _
    unfold descOk descE; rw [HM.out, ho]; exact ⟨rfl, rfl⟩
  have HMD := Lib.hid (mayD_iff HM.out ho).2.2
  have hn4 := (mayD_iff HM.out ho).2.1
  clear ho
  obtain ⟨g, hg⟩ : ∃ g, g = w2.heap.size := ⟨_, rfl⟩
  have hg2 : w.heap.size + 2 ≤ g := by omega
  have st0 : Hid (WD w G S I J g (hz (dH b i d 0)) (w2.alloc (.cells (Ks .u8 256 (fun _ => 0)).toArray 117))) :=
    ⟨hS2.alloc _, hR2.alloc _, by rw [hg]; exact (Blk.new w2 _ _ _).congr fun i _ => (hz_zero i).symm, hL2.alloc hL2.size _⟩
  clear hS2 hR2 hL2 hsz
  go_wp2_with fail
  rw [← hg]
  clear hg
  go_loopw [20] (fun u wr => ∃ k : Nat, k ≤ n ∧ u = .int .i64 (k : Int) ∧ WD w G S I J g (hz (dH b i d k)) wr) (fun u _ => n - (intOf u).toNat)
  case atStart => exact ⟨0, by omega, rfl, st0.out⟩
  case round =>
    clear st0
    obtain ⟨k, hk, rfl, st⟩ := hrel
    by_cases hlt : k < n
    · have hrr := HR.out.below (df_ne _ _ _ _) st.bel
      rcases hrr with h0 | ⟨bb, off, rfl, hsg⟩
      · omega
      have r0 : wr.cell? ⟨bb, off + k * 3, none⟩ = some (.int .i64 (b k)) := hsg k hlt 0 _ rfl
      have r1 : wr.cell? ⟨bb, off + k * 3 + 1, none⟩ = some (.int .i64 (i k)) := hsg k hlt 1 _ rfl
      have r2 : wr.cell? ⟨bb, off + k * 3 + 2, none⟩ = some (.int .i64 (d k)) := hsg k hlt 2 _ rfl
      have hA := At.new wr 67 (dcells (b k) (i k) (d k))
      have d0 : (wr.alloc (.cells #[.int .i64 (b k), .int .i64 (i k), .int .i64 (d k)] 67)).cell? ⟨wr.heap.size, 0, none⟩ = some (.int .i64 (b k)) := hA.cell (i := 0) rfl
      have d1 : (wr.alloc (.cells #[.int .i64 (b k), .int .i64 (i k), .int .i64 (d k)] 67)).cell? ⟨wr.heap.size, 1, none⟩ = some (.int .i64 (i k)) := hA.cell (i := 1) rfl
      have d2 : (wr.alloc (.cells #[.int .i64 (b k), .int .i64 (i k), .int .i64 (d k)] 67)).cell? ⟨wr.heap.size, 2, none⟩ = some (.int .i64 (d k)) := hA.cell (i := 2) rfl
      have ST := Lib.hid (st.below ((Below.refl _ _).alloc (Nat.le_refl _) (.cells (dcells (b k) (i k) (d k)) 67)))
      have HB := Lib.hid (HMD.out k hlt)
      clear hsg hA st
      go_wp2_with fail
      refine (putDesc_any g (dH b i d k) k _ (b k) (i k) (d k) (by omega) (by omega) (by have := HB.out; omega) (by have := HB.out; omega) (by have := HB.out; omega) _ ST.out.p).mono ?_
      rintro e w5 ⟨⟨u, rfl⟩, hp, hgo⟩
      have st' : WD w G S I J g (hz (dH b i d (k + 1))) w5 := ST.out.step hg2 hgo hp
      clear ST hp hgo d0 d1 d2 r0 r1 r2 HB
      go_wp2_with fail
      go_roundw
      case rel => first | exact ⟨k + 1, by omega, by go_num, st'⟩ | exact ⟨k + 1, by omega, rfl, st'⟩
      case measure => simp [intOf]; omega
    · obtain rfl : k = n := by omega
      have HST := Lib.hid st
      clear st
      go_wp2_with fail
      refine (pageSeal_any g _ (hz_byt _) _ HST.out.p (HT.out.below HST.out.bel (Nat.le_refl _))).mono ?_
      rintro e w8 ⟨⟨u, rfl⟩, hp, hgo⟩
      have st6 := Lib.hid (HST.out.step hg2 hgo hp)
      clear HST hp hgo
      have hp6 := st6.out.p
      have hr6 := st6.out.r
      go_wp2_with (first | (refine wp_loadPage rfl (.tmp 32) rfl g _ rfl hp6 ?_) | (refine wp_storeBlk rfl (.tmp 4) (.tmp 33) rfl (w.heap.size + 1) (sealZ (hz (dH b i d k))) _ rfl rfl hr6 ?_))
      intro w9 hR9 ho9
      go_wp2_with fail
      exact bodyPost_ret (results_blk2 rfl _ _ (w.heap.size + 1) _ rfl hR9) rfl ⟨by rw [descZ, HO.out.1, HO.out.2]; rfl, st6.out.bel.trans (ho9.below (by omega))⟩
end Go.Proofs.YtnbmmhoofilmfaaGreatDoor

/- Rows of structs made at once and stored element by element. No program in sight. -/
namespace Go.Proofs.YtnbmmhoofilmfaaGreatDoor
open Go.RowKit
set_option linter.unusedVariables false

/-- heap block g is a row of n elements of m cells each -/
structure RArr (W : World) (g : Nat) (T : TypeId) (m n : Nat) (f : Nat → List Value) : Prop where
  blk : ∃ cs, W.heap[g]? = some (.cells cs T (0, 0)) ∧ cs.size = n * m
  seg : RSeg W g 0 m n f
section
variable {W W' : World} {g : Nat} {T : TypeId} {m n : Nat} {f : Nat → List Value}
theorem RArr.lt (h : RArr W g T m n f) : g < W.heap.size := by obtain ⟨cs, h, _⟩ := h.blk; exact (Array.getElem?_eq_some_iff.1 h).1
theorem RArr.of_block (h : RArr W g T m n f) (e : W'.heap[g]? = W.heap[g]?) : RArr W' g T m n f :=
  ⟨by obtain ⟨cs, h1, h2⟩ := h.blk; exact ⟨cs, e.trans h1, h2⟩, fun i hi j v hv => (World.cell?_of_block (w := W) e).trans (h.seg i hi j v hv)⟩
theorem RArr.below (h : RArr W g T m n f) (hb : Below W.heap.size W W') : RArr W' g T m n f := h.of_block (hb.block g h.lt)
theorem RArr.grown (h : RArr W g T m n f) {row : Option Nat} (hb : W.grownBy W' row) (hg : some g ≠ row) : RArr W' g T m n f := h.of_block (hb.block g h.lt hg)
theorem RArr.only (h : RArr W g T m n f) {b : Nat} (hb : Only b W W') (hg : g ≠ b) : RArr W' g T m n f := h.of_block (hb.block g hg)
theorem RArr.alloc (h : RArr W g T m n f) (o : Obj) : RArr (W.alloc o) g T m n f := h.below ((Below.refl _ _).alloc (Nat.le_refl _) o)
theorem RArr.congr {f' : Nat → List Value} (h : RArr W g T m n f) (e : ∀ i, i < n → f i = f' i) : RArr W g T m n f' := ⟨h.blk, fun i hi j v hv => h.seg i hi j v (by rw [e i hi]; exact hv)⟩
theorem RArr.there (h : RArr W g T m n f) {k : Nat} (hk : k < n) : W.there g (k * m) m := fun j hj => by
  obtain ⟨cs, h1, h2⟩ := h.blk
  have hlt : k * m + j < cs.size := by
    rw [h2]
    have : (k + 1) * m ≤ n * m := Nat.mul_le_mul_right m hk
    rw [Nat.succ_mul] at this
    omega
  exact ⟨by rw [cell_of_heap h1 (Array.getElem?_eq_getElem hlt)]; rfl, soft_of_heap h1 _⟩
/-- an element is stored -/
theorem RArr.set (h : RArr W g T m n f) {k : Nat} (hk : k < n) {vs : List Value} (hv : vs.length = m) (hf : ∀ i, (f i).length = m) : RArr (W.setCells g (k * m) vs) g T m n (fun j => if j = k then vs else f j) ∧ Only g W (W.setCells g (k * m) vs) := by
  have ho := only_setCells g vs (k * m) W
  have hth := h.there hk
  obtain ⟨cs, h1, h2⟩ := h.blk
  obtain ⟨c', hc1, hc2⟩ := ho.shape _ _ _ h1
  refine ⟨⟨⟨c', hc2, by rw [hc1, h2]⟩, fun i hi j v hj => ?_⟩, ho⟩
  rw [Nat.zero_add]
  by_cases e : i = k
  · subst e
    rw [if_pos rfl] at hj
    exact World.rangeAt_setCells_same W g (i * m) vs (by rw [hv]; exact hth) j v hj
  · rw [if_neg e] at hj
    have hr : W.rangeAt g (i * m) (f i) := by have := h.seg.range i hi; rwa [Nat.zero_add] at this
    refine World.rangeAt_setCells_apart hr g (k * m) vs ?_ j v hj
    rw [hf, hv]
    rcases Nat.lt_or_gt_of_ne e with h' | h'
    · have : (i + 1) * m ≤ k * m := Nat.mul_le_mul_right m h'
      rw [Nat.succ_mul] at this; omega
    · have : (k + 1) * m ≤ i * m := Nat.mul_le_mul_right m h'
      rw [Nat.succ_mul] at this; omega
/-- it is a slice of one's own -/
theorem RArr.mine (h : RArr W g T m n f) (hf : ∀ i, (f i).length = m) {base : Nat} (hb : base ≤ g) (hn : n ≤ maxLen) : RMine W base T m (.slice (some ⟨g, 0, none⟩) n n) n f := by
  obtain ⟨cs, h1, h2⟩ := h.blk
  refine ⟨Cs_length hf n, .inr ⟨g, n, cs, rfl, hb, h1, Nat.le_refl _, hn, h2, ?_⟩⟩
  rw [List.take_of_length_le (by rw [Array.length_toList, h2]; exact Nat.le_refl _)]
  apply List.ext_getElem?
  intro p
  by_cases hp : p < n * m
  · have hm : 0 < m := by
      rcases Nat.eq_zero_or_pos m with e | e
      · rw [e, Nat.mul_zero] at hp; omega
      · exact e
    have hq : p / m < n := (Nat.div_lt_iff_lt_mul hm).2 hp
    have hr : p % m < m := Nat.mod_lt _ hm
    have he : p / m * m + p % m = p := by rw [Nat.mul_comm]; exact Nat.div_add_mod p m
    obtain ⟨v, hv⟩ : ∃ v, (f (p / m))[p % m]? = some v := ⟨_, List.getElem?_eq_getElem (by rw [hf]; exact hr)⟩
    have h3 := h.seg (p / m) hq (p % m) v hv
    rw [Nat.zero_add, he] at h3
    have h4 := Cs_get hf hq hr
    rw [he] at h4
    rw [h4, hv, Array.getElem?_toList, Array.getElem?_eq_getElem (by rw [h2]; exact hp)]
    have h5 := cell_of_heap h1 (Array.getElem?_eq_getElem (show p < cs.size by rw [h2]; exact hp))
    rw [h3] at h5
    exact h5.symm
  · rw [List.getElem?_eq_none (by rw [Array.length_toList, h2]; omega), List.getElem?_eq_none (by rw [Cs_length hf]; omega)]
/-- what make lays -/
theorem RArr.made (w : World) (z : Array Value) (hz : z.size = m) (hm : 0 < m) (n : Nat) (T : TypeId) : RArr (w.alloc (.cells (madeCells z (n * m)) T)) w.heap.size T m n (fun _ => z.toList) :=
  ⟨⟨_, heap_alloc_new w _, size_madeCells _ _⟩, fun i hi j v hj => by
    rw [Nat.zero_add]
    have hj' : j < m := by have := (List.getElem?_eq_some_iff.1 hj).1; rw [Array.length_toList, hz] at this; exact this
    have hlt : i * m + j < n * m := by
      have : (i + 1) * m ≤ n * m := Nat.mul_le_mul_right m hi
      rw [Nat.succ_mul] at this; omega
    refine cell_of_heap (heap_alloc_new w _) ?_
    have hmod : (i * m + j) % m = j := by rw [Nat.mul_comm, Nat.mul_add_mod, Nat.mod_eq_of_lt hj']
    have hz' : z[j]? = some v := by rw [← hj, Array.getElem?_toList]
    simp only [madeCells, Array.getElem?_map, Array.getElem?_range, hlt, if_true, Option.map_some, hz, hmod]
    rw [getElem!_def, hz']⟩
theorem run_mkrow {P : Program} (t e : TypeId) (z : Value) (m bytes : Nat) (ht : P.underlying t = some (.slice e)) (hinfo : (P.info? e).map (fun i => (i.zero, i.size, i.bytes)) = some (some z, m, bytes))
    (kl kc : IntKind) (n : Nat) (hbytes : bytes * n ≤ 281474976710656) (h63 : n ≤ 9223372036854775807) (w : World) :
    (Instr.makeSlice t (.int kl (n : Int)) (.int kc (n : Int))).run P w = .ok (.slice (some ⟨w.heap.size, 0, none⟩) n n) (w.alloc (.cells (madeCells z.cells (n * m)) e)) := by
  obtain ⟨i, hi, hzz⟩ := Option.map_eq_some_iff.1 hinfo
  simp only [Prod.mk.injEq] at hzz
  obtain ⟨hz, hs, hb⟩ := hzz
  have hb' : (i.bytes : Int) * (n : Int) ≤ 281474976710656 := by
    have h : ((i.bytes * n : Nat) : Int) ≤ 281474976710656 := by rw [hb]; omega
    rwa [Int.natCast_mul] at h
  have hr := run_make (P := P) w t e i z ht hi hz kl kc n n (by omega) (Int.le_refl _) hb' (by omega)
  simp only [Int.toNat_natCast, hs] at hr
  exact hr
end
end Go.Proofs.YtnbmmhoofilmfaaGreatDoor

/- One cell of a row stored; what grows. No program in sight. -/
namespace Go.Proofs.YtnbmmhoofilmfaaGreatDoor
open Go.RowKit
set_option linter.unusedVariables false
theorem RArr.cellset {W : World} {g : Nat} {T : TypeId} {m n : Nat} {f : Nat → List Value} (h : RArr W g T m n f) {k j : Nat} (hk : k < n) (hj : j < m) (hf : ∀ i, (f i).length = m) (v : Value) : RArr (W.setCell ⟨g, k * m + j, none⟩ v) g T m n (fun i => if i = k then (f i).set j v else f i) := by
  have ho := Only.setCell W ⟨g, k * m + j, none⟩ v
  obtain ⟨cs, h1, h2⟩ := h.blk
  obtain ⟨c', hc1, hc2⟩ := ho.shape _ _ _ h1
  refine ⟨⟨c', hc2, by rw [hc1, h2]⟩, fun i hi p u hp => ?_⟩
  rw [Nat.zero_add]
  obtain ⟨x, hx⟩ : ∃ x, W.cell? ⟨g, k * m + j, none⟩ = some x := by
    have := h.seg k hk j _ (List.getElem?_eq_getElem (by rw [hf]; exact hj))
    rw [Nat.zero_add] at this
    exact ⟨_, this⟩
  have hpm : p < m := by
    have := (List.getElem?_eq_some_iff.1 hp).1
    by_cases e : i = k
    · rw [if_pos e, List.length_set, hf] at this; exact this
    · rw [if_neg e, hf] at this; exact this
  by_cases e : i = k
  · subst e
    rw [if_pos rfl] at hp
    by_cases e2 : p = j
    · subst e2
      rw [List.getElem?_set_self (by rw [hf]; exact hpm)] at hp
      cases hp
      exact World.cell?_setCell_same _ _ _ hx
    · rw [List.getElem?_set_ne (fun h => e2 h.symm)] at hp
      rw [World.cell?_setCell_other _ _ _ _ (by intro h; injection h with _ h _; omega)]
      have := h.seg i hi p u hp
      rwa [Nat.zero_add] at this
  · rw [if_neg e] at hp
    have hne : k * m + j ≠ i * m + p := by
      rcases Nat.lt_or_gt_of_ne e with h' | h'
      · have : (i + 1) * m ≤ k * m := Nat.mul_le_mul_right m h'
        rw [Nat.succ_mul] at this; omega
      · have : (k + 1) * m ≤ i * m := Nat.mul_le_mul_right m h'
        rw [Nat.succ_mul] at this; omega
    rw [World.cell?_setCell_other _ _ _ _ (by intro h; injection h with _ h _; exact hne h)]
    have := h.seg i hi p u hp
    rwa [Nat.zero_add] at this
/-- a row stored in the midst of a block: the world behind it gets a name -/
theorem wp_storeMid {P : Program} {ops : Array Oper} {rest : List Oper} {op : Oper} {a : Act} {w : World} {Q : Exit → Act → World → Prop} (hgd : op.guard = none) (ty : TypeId) (x y : Operand) (ho : op.op = .store ty x y)
    (b o : Nat) (cs : List Value) (hx : a.eval x = .pointer (some ⟨b, o, none⟩)) (hy : a.eval y = .agg cs.toArray)
    (ht : w.there b o cs.length) (hi : (P.info? ty).map (·.size) = some cs.length) (h1 : ∀ v ∈ cs, v.oneCell' = true)
    (h : ∀ w', Hid (w' = w.setCells b o cs) → wpList P ops Q rest (a.put op.dst undef) w') : wpList P ops Q (op :: rest) a w :=
  wpList_store_mid hgd ty x y ho b o cs.toArray hx hy (by simpa using ht) (by simpa using hi) (by rw [List.all_toArray, List.all_eq_true]; exact h1) (h _ (Lib.hid rfl))
/-- a literal slice of one element -/
theorem wpList_slice1 {P : Program} {w : World} {ops : Array Oper} {rest : List Oper} {o : Oper} {a : Act} {Q : Exit → Act → World → Prop} (hgd : o.guard = none) (t : TypeId) (n i : Nat) (x : Operand) (ho : o.op = .buildSlice t n #[(i, x)])
    (u : Value) (hx : a.eval x = u) (v : Value) (w' : World) (hr : (Instr.buildSlice t n #[(i, u)]).run P w = .ok v w') (h : wpList P ops Q rest (a.put o.dst v) w') : wpList P ops Q (o :: rest) a w :=
  wpList_plain hgd fun _ hK => by
    unfold Oper.wp execOp
    subst hx
    simp only [ho, Sem.run_bind, List.map_toArray, List.map_cons, List.map_nil, hr, Result.andThen_ok, Sem.run_pure]
    exact hK _ _ h
end Go.Proofs.YtnbmmhoofilmfaaGreatDoor

/- super.ReadDescs. -/
namespace Go.Proofs.YtnbmmhoofilmfaaGreatDoor
open Go.RowKit
set_option linter.unusedVariables false

abbrev rB (z : Nat → Int) (k : Nat) : Int := hd z (4 * k)
abbrev rI (z : Nat → Int) (k : Nat) : Int := hd z (4 * k + 1)
abbrev rD (z : Nat → Int) (k : Nat) : Int := hd z (4 * k + 2)
def rdIn (G S I J : Int) (z : Nat → Int) : Bool :=
  sumB z && (allZ (fun i => z (8 * G.toNat + i)) (252 - 8 * G.toNat) && (allB (fun k => hd z (4 * k + 3) == 0) G.toNat && mayD G S I J G.toNat (rB z) (rI z) (rD z)))
def rdOk (G S I J : Int) (z : Nat → Int) : Bool := mayG G S I J && rdIn G S I J z
/-- what ReadDescs tells -/
def RdPost (w : World) (G S I J : Int) (z : Nat → Int) (v : Value) (e : Int) (W : World) : Prop :=
  (rdOk G S I J z = true ∧ e = 0 ∧ RMine W w.heap.size 67 3 v G.toNat (df (rB z) (rI z) (rD z))) ∨ (rdOk G S I J z = false ∧ e = (if mayG G S I J then 60 else 50) ∧ v = .slice none 0 0)
theorem zero_half (z : Nat → Int) (hzb : Byt z) (k : Nat) : allZ (fun i => z (8 * k + 6 + i)) 2 = (hd z (4 * k + 3) == 0) := by
  have h := allZ_hd hzb (4 * k + 3) 1
  rw [show 2 * (4 * k + 3) = 8 * k + 6 by omega] at h
  rw [show 2 * 1 = 2 from rfl] at h
  rw [h, Bool.eq_iff_iff]
  simp [allZ]
theorem info_desc3 : (Tryz.prog.info? 67).map (fun i => (i.zero, i.size, i.bytes)) = some (some (dval 0 0 0), 3, 24) := by kernel_rfl
theorem all_d (B I D : Int) : (dcells B I D).all (·.oneCell') = true := by kernel_rfl

def mixR (z : Nat → Int) (k j : Nat) : List Value := if j < k then df (rB z) (rI z) (rD z) j else [.int .i64 0, .int .i64 0, .int .i64 0]
theorem mixR_len (z : Nat → Int) (k j : Nat) : (mixR z k j).length = 3 := by unfold mixR; split <;> rfl
structure RD (w : World) (G S I J : Int) (g : Nat) (z : Nat → Int) (W : World) : Prop where
  s : At W w.heap.size 23 (gcells G S I J)
  p : Blk W g 117 256 z
  bel : Below w.heap.size w W
theorem RD.below {w : World} {G S I J : Int} {g : Nat} {z : Nat → Int} {W W' : World} (h : RD w G S I J g z W) (hb : Below W.heap.size W W') : RD w G S I J g z W' :=
  ⟨h.s.below hb h.s.lt, h.p.below hb h.p.lt, h.bel.trans (hb.mono h.bel.size)⟩
theorem RD.only {w : World} {G S I J : Int} {g q : Nat} {z : Nat → Int} {W W' : World} (h : RD w G S I J g z W) (hb : Only q W W') (h1 : w.heap.size < q) (h2 : g ≠ q) : RD w G S I J g z W' :=
  ⟨h.s.only hb (by omega), h.p.only hb h2, h.bel.trans (hb.below (by omega))⟩

set_option maxRecDepth 100000 in
set_option maxHeartbeats 4000000 in
theorem superReadDescs_any (G S I J : Int) (z : Nat → Int) (hzb : Byt z) (w : World) (hT : Tab w) :
    Calls Tryz.prog 19 #[gval G S I J, bval z] w fun e w' => ∃ v E, e = .returned (.tuple #[v, .int .i64 E]) ∧ RdPost w G S I J z v E w' ∧ Below w.heap.size w w' := by
  have halp := zero_page
  have hbd := fun W => build_page z W
  have HT := Lib.hid hT
  obtain ⟨W, hW⟩ : ∃ W, W = (w.alloc (.cells (gcells G S I J) 23)).alloc (.cells (Ks .u8 256 z).toArray 32) := ⟨_, rfl⟩
  have hS : At W w.heap.size 23 (gcells G S I J) := by rw [hW]; exact (At.new w _ _).alloc _
  have hB : Blk W (w.heap.size + 1) 32 256 z := by
    rw [hW]
    have := Blk.new (w.alloc (.cells (gcells G S I J) 23)) 32 256 z
    simp only [World.size_alloc] at this
    exact this
  have hL : Below w.heap.size w W := by rw [hW]; exact ((Below.refl _ _).alloc (Nat.le_refl _) _).alloc (by simp) _
  have HW := Lib.hid hW
  clear hW hT
  go_enter Tryz.func19, Tryz.ntmps19
  have hS0 : At ((w.alloc (.cells (gcells G S I J) 23)).alloc (.cells (Ks .u8 256 z).toArray 32)) w.heap.size 23 (gcells G S I J) := (At.new w _ _).alloc _
  go_wp2_with (first | (refine wp_loadAtG rfl 23 (.tmp 2) rfl _ _ _ rfl hS0 Tryz.underlying23 rfl (by kernel_rfl) ?_))
  rw [← HW.out]
  clear HW hS0
  refine (geoMay_any G S I J W).mono ?_
  rintro e w1 ⟨rfl, hb1⟩
  have hS1 := hS.below hb1 hS.lt
  have hB1 := hB.below hb1 hB.lt
  have hL1 : Below w.heap.size w w1 := hL.trans (hb1.mono hL.size)
  clear hS hB hL hb1
  cases hm : mayG G S I J with
  | false =>
    have HO : Hid (RdPost w G S I J z (.slice none 0 0) 50 w1) := .inr ⟨by unfold rdOk; rw [hm]; rfl, by rw [hm]; rfl, rfl⟩
    clear hm
    go_wp2_with fail
    go_ret2
    exact ⟨_, _, rfl, HO.out, hL1⟩
  | true =>
  have HM := Lib.hid hm
  have hG : 1 ≤ G ∧ G ≤ 4 := by
    obtain ⟨h1, h2, h3, h4, h5, h6, h7, h8, h9, h10, h11⟩ := (mayG_iff G S I J).1 hm
    exact ⟨h1, h2⟩
  clear hm
  have HF : Hid (∀ W, rdIn G S I J z = false → RdPost w G S I J z (.slice none 0 0) 60 W) := fun W h => .inr ⟨by unfold rdOk; rw [HM.out, h]; rfl, by rw [HM.out]; rfl, rfl⟩
  obtain ⟨n, hn⟩ : ∃ n : Nat, G = (n : Int) := ⟨G.toNat, by omega⟩
  have HGN : Hid (G.toNat = n) := by show _ = _; omega
  have hn4 : 1 ≤ n ∧ n ≤ 4 := by omega
  have hP : At (w1.alloc (.cells (Ks .u8 256 (fun _ => 0)).toArray 117)) w1.heap.size 117 (Ks .u8 256 (fun _ => 0)).toArray := At.new _ _ _
  have hsz := hB1.lt
  have HS1 := Lib.hid (hS1.alloc (.cells (Ks .u8 256 (fun _ => 0)).toArray 117))
  have HL1 : Hid (Below w.heap.size w (w1.alloc (.cells (Ks .u8 256 (fun _ => 0)).toArray 117))) := hL1.alloc hL1.size _
  have HNEQ := Lib.hid hn
  clear hS1 hL1 hn
  go_wp2_with (first | (refine wp_loadBlkG rfl (.tmp 3) rfl (w.heap.size + 1) z rfl hB1 ?_) | (refine wp_build1 rfl 117 0 (.tmp 12) rfl (bval z) _ rfl (hbd _) ?_) | (refine wp_storeAt rfl 117 (.tmp 6) (.tmp 13) rfl w1.heap.size (Ks .u8 256 z).toArray (Ks .u8 256 (fun _ => 0)).toArray rfl rfl hP (info_page' z) (by rw [Ks_size, Ks_size]) (Ks_one _ _ _) ?_))
  intro w2 hP2 ho2
  obtain ⟨g, hg⟩ : ∃ g, w1.heap.size = g := ⟨_, rfl⟩
  rw [hg] at hP2 ho2 ⊢
  have st0 : Hid (RD w G S I J g z w2) := ⟨HS1.out.only ho2 (by omega), hP2.blk, HL1.out.trans (ho2.below (by omega))⟩
  have hgl : w.heap.size + 2 ≤ g := by omega
  clear HS1 HL1 hP hP2 ho2 hB1 hsz hg hbd
  go_wp2_with fail
  refine (pageSealed_any g z hzb _ st0.out.p (HT.out.below st0.out.bel (Nat.le_refl _))).mono ?_
  rintro e w3 ⟨rfl, hb3⟩
  have st3 := Lib.hid (st0.out.below hb3)
  clear st0 hb3
  cases hc4 : sumB z with
  | false =>
    have HX : Hid (rdIn G S I J z = false) := by show _ = _; unfold rdIn; rw [hc4]; rfl
    clear hc4
    go_wp2_with fail
    go_ret2
    exact ⟨_, _, rfl, HF.out _ HX.out, st3.out.bel⟩
  | true =>
  have HC4 := Lib.hid hc4
  clear hc4
  have hc0 : w3.cell? ⟨w.heap.size, 0, none⟩ = some (.int .i64 G) := st3.out.s.cell (i := 0) rfl
  go_wp2_with fail
  refine (pageNoughts_any g z (8 * n) 252 _ 252 (by have := HNEQ.out; omega) rfl (by omega) (by omega) (by omega) _ st3.out.p).mono ?_
  rintro e wx ⟨rfl, rfl⟩
  cases hc5 : allZ (fun i => z (8 * n + i)) (252 - 8 * n) with
  | false =>
    have HX : Hid (rdIn G S I J z = false) := by show _ = _; unfold rdIn; rw [HC4.out, HGN.out, hc5]; rfl
    clear hc5
    go_wp2_with fail
    go_ret2
    exact ⟨_, _, rfl, HF.out _ HX.out, st3.out.bel⟩
  | true =>
  have HIN : Hid (rdIn G S I J z = (allB (fun k => hd z (4 * k + 3) == 0) n && mayD G S I J n (rB z) (rI z) (rD z))) := by show _ = _; unfold rdIn; rw [HC4.out, HGN.out, hc5]; rfl
  clear hc5 HC4
  have hmk := fun W => run_mkrow (P := Tryz.prog) 51 67 (dval 0 0 0) 3 24 Tryz.underlying51 info_desc3 .i64 .i64 n (by omega) (by omega) W
  have hn := HNEQ.out
  rw [← hn] at hmk
  clear hn
  have HA0 := Lib.hid (RArr.made (m := 3) w3 (dcells 0 0 0) rfl (by omega) n 67)
  have st4 : Hid (RD w G S I J g z (w3.alloc (.cells (madeCells (dval 0 0 0).cells (n * 3)) 67))) := st3.out.below ((Below.refl _ _).alloc (Nat.le_refl _) _)
  have hql : g < w3.heap.size := st3.out.p.lt
  clear st3
  go_wp2_with fail
  obtain ⟨q, hq⟩ : ∃ q, w3.heap.size = q := ⟨_, rfl⟩
  rw [hq] at HA0 hql ⊢
  have HA1 : Hid (RArr (w3.alloc (.cells (madeCells (dval 0 0 0).cells (n * 3)) 67)) q 67 3 n (mixR z 0)) := HA0.out.congr fun i _ => rfl
  clear HA0 hmk hq
  go_loopw [28] (fun u wr => ∃ k : Nat, k ≤ n ∧ u = .int .i64 (k : Int) ∧ Hid (allB (fun k => hd z (4 * k + 3) == 0) k = true) ∧ RD w G S I J g z wr ∧ RArr wr q 67 3 n (mixR z k)) (fun u _ => n - (intOf u).toNat)
  case atStart => exact ⟨0, by omega, rfl, rfl, st4.out, HA1.out⟩
  case round =>
    clear st4 HA1 hc0
    obtain ⟨k, hk, rfl, HALL, st, harr⟩ := hrel
    have ST := Lib.hid st
    have HARR := Lib.hid harr
    clear st harr
    by_cases hlt : k < n
    · go_wp2_with fail
      refine (pageNoughts_any g z (8 * k + 6) (8 * k + 8) _ _ (by omega) (by omega) (by omega) (by omega) (by omega) _ ST.out.p).mono ?_
      rintro e wx ⟨rfl, rfl⟩
      rw [show 8 * k + 8 - (8 * k + 6) = 2 by omega, zero_half z hzb]
      cases hzq : (hd z (4 * k + 3) == 0) with
      | false =>
        have HX : Hid (rdIn G S I J z = false) := by show _ = _; rw [HIN.out, allB_no hlt hzq]; rfl
        clear hzq
        go_wp2_with fail
        go_ret2
        exact ⟨_, _, rfl, HF.out _ HX.out, ST.out.bel⟩
      | true =>
        have HALL2 : Hid (allB (fun k => hd z (4 * k + 3) == 0) (k + 1) = true) := by show (allB _ k && (hd z (4 * k + 3) == 0)) = true; rw [HALL.out, hzq]; rfl
        clear hzq HALL
        go_wp2_with fail
        refine (getDesc_any g z hzb k _ (by omega) (by omega) _ ST.out.p).mono ?_
        rintro e w6 ⟨rfl, hb6⟩
        have st6 := Lib.hid (ST.out.below hb6)
        have HARR6 := Lib.hid (HARR.out.below hb6)
        clear ST HARR hb6
        have hth := HARR6.out.there hlt
        have hset := Lib.hid (HARR6.out.set hlt (vs := [.int .i64 (rB z k), .int .i64 (rI z k), .int .i64 (rD z k)]) rfl (mixR_len z k))
        go_wp2_with (first | (refine wpList_store_mid rfl 67 (.tmp 45) (.tmp 44) rfl q (k * 3) (dcells (rB z k) (rI z k) (rD z k)) rfl rfl hth info_desc (all_d _ _ _) ?_))
        have st7 := st6.out.only hset.out.2 (by omega) (by omega)
        have harr7 : RArr (w6.setCells q (k * 3) [.int .i64 (rB z k), .int .i64 (rI z k), .int .i64 (rD z k)]) q 67 3 n (mixR z (k + 1)) := hset.out.1.congr fun i _ => by
          unfold mixR
          by_cases e : i = k
          · subst e; rw [if_pos rfl, if_pos (by omega)]; rfl
          · rw [if_neg e]
            by_cases e2 : i < k
            · rw [if_pos e2, if_pos (by omega)]
            · rw [if_neg e2, if_neg (by omega)]
        generalize w6.setCells q (k * 3) [.int .i64 (rB z k), .int .i64 (rI z k), .int .i64 (rD z k)] = w7 at *
        clear st6 HARR6 hset hth
        go_roundw
        case rel => first | exact ⟨k + 1, by omega, by go_num, HALL2, st7, harr7⟩ | exact ⟨k + 1, by omega, rfl, HALL2, st7, harr7⟩
        case measure => simp [intOf]; omega
    · obtain rfl : k = n := by omega
      have hs := ST.out.s
      have hrow : RRow wr (some ⟨q, 0, none⟩) 3 k (df (rB z) (rI z) (rD z)) := .inr ⟨q, 0, rfl, (HARR.out.congr (f' := df (rB z) (rI z) (rD z)) fun i hi => by unfold mixR; rw [if_pos hi]).seg⟩
      have HROW := Lib.hid hrow
      clear hrow
      go_wp2_with (first | (refine wp_loadAtG rfl 23 (.tmp 2) rfl _ _ _ rfl hs Tryz.underlying23 rfl (by kernel_rfl) ?_))
      refine (superMay_any G S I J HM.out _ k _ _ _ _ (by omega) _ HROW.out).mono ?_
      rintro e w8 ⟨rfl, hb8⟩
      cases hmd : mayD G S I J k (rB z) (rI z) (rD z) with
      | false =>
        have HX : Hid (rdIn G S I J z = false) := by show _ = _; rw [HIN.out, hmd, Bool.and_false]
        have HBL : Hid (Below w.heap.size w w8) := ST.out.bel.trans (hb8.mono ST.out.bel.size)
        clear hmd hb8 hs
        go_wp2_with fail
        go_ret2
        exact ⟨_, _, rfl, HF.out _ HX.out, HBL.out⟩
      | true =>
        have HX : Hid (rdOk G S I J z = true) := by show _ = _; unfold rdOk; rw [HM.out, HIN.out, hmd, HALL.out]; rfl
        have HBL : Hid (Below w.heap.size w w8) := ST.out.bel.trans (hb8.mono ST.out.bel.size)
        have HMI : Hid (RMine w8 w.heap.size 67 3 (.slice (some ⟨q, 0, none⟩) k k) k (df (rB z) (rI z) (rD z))) :=
          (((HARR.out.congr (f' := df (rB z) (rI z) (rD z)) fun i hi => by unfold mixR; rw [if_pos hi]).below hb8).mine (df_len _ _ _) (by omega) (by unfold maxLen; omega))
        clear hmd hb8 hs
        go_wp2_with fail
        go_ret2
        exact ⟨_, _, rfl, .inl ⟨HX.out, rfl, by rw [HGN.out]; exact HMI.out⟩, HBL.out⟩
end Go.Proofs.YtnbmmhoofilmfaaGreatDoor

/- Whole rows of cells loaded and stored in the midst of a heap block. No program in sight. -/
namespace Go.Proofs.YtnbmmhoofilmfaaGreatDoor
open Go.RowKit
set_option linter.unusedVariables false
theorem wp_loadMid {P : Program} {w : World} {ops : Array Oper} {rest : List Oper} {o : Oper} {a : Act} {Q : Exit → Act → World → Prop} (hw : Region.wanted o (yielded ops a.tmps) = true) (T : TypeId) (p : Operand) (ho : o.op = .load T p)
    (g off : Nat) (cs : List Value) (d : TypeDesc) (hx : a.eval p = .pointer (some ⟨g, off, none⟩)) (hI : w.rangeAt g off cs) (hu : P.underlying T = some d) (hd : d.isRow = true) (hi : (P.info? T).map (·.size) = some cs.length)
    (h : wpList P ops Q rest (a.put o.dst (.agg cs.toArray)) w) : wpList P ops Q (o :: rest) a w :=
  BigFrame.wpList_want hw fun _ hK => wp_load_mid T p ho g off hx cs d hI hu hd hi (hK _ _ h)
end Go.Proofs.YtnbmmhoofilmfaaGreatDoor

/- As XRange: a range over a function whose iterator turns blocks of its own: each round leaves what the iterator needs as it was (Need k), and the iterator itself goes on to Need (k + 1). No program in sight. -/
namespace Go.Proofs.YtnbmmhoofilmfaaGreatDoor
open Go.RowKit
set_option linter.unusedVariables false
variable {F : Fence} {n : Nat} {P : Program}

end Go.Proofs.YtnbmmhoofilmfaaGreatDoor

/- The iterators of pack.rows: rows of at most 30 copies, of at most 60 numbers. Printed by gen_pkrows.py. -/
namespace Go.Proofs.YtnbmmhoofilmfaaGreatDoor
open Go.RowKit Go.Shelf
set_option linter.unusedVariables false
attribute [local go_sem] Oper.semAt_some
theorem At.set0 {W : World} {B : Nat} {T : TypeId} {v : Value} (h : At W B T #[v]) (u : Value) : At (W.setCell ⟨B, 0, none⟩ u) B T #[u] := by
  obtain ⟨hlt, hk⟩ := Array.getElem?_eq_some_iff.1 h
  show (W.heap.modify B _)[B]? = _
  rw [Array.getElem?_eq_getElem (by rw [Array.size_modify]; exact hlt), Array.getElem_modify_self, hk]
  rfl
theorem addr_add0 (x : Addr) : x.add 0 = x := by
  unfold Addr.add
  rw [if_pos rfl]
end Go.Proofs.YtnbmmhoofilmfaaGreatDoor
