/- Texts of this claim, merged by a program (a claim may have 60 files): Open, U6e, Door. -/
import Derived.WalkKit
import Derived.ProofKit
import Derived.OpenShut
import Derived.ChangeOld
import Derived.Below
import Derived.Deep.MidRow
import Derived.Test.YtnbmmhoofilmfaaGreatDoorK03
import Derived.Test.YtnbmmhoofilmfaaGreatDoorK11
import Derived.Test.YtnbmmhoofilmfaaGreatDoorK10
import Derived.Test.YtnbmmhoofilmfaaGreatDoorK07
import Derived.Test.YtnbmmhoofilmfaaGreatDoorK08
import Derived.Deep.Slices
import Derived.ChangeSlices
import Derived.LaidMore
import Derived.MakeChecks
import Derived.Lib.LaidTab
/- Arguments that are rows of integers (arrays, structs), opened: what a law's frame tells its walk. No program in sight. -/
namespace Go.Proofs.YtnbmmhoofilmfaaGreatDoor
open Go.RowKit
set_option linter.unusedVariables false
variable {P : Program} {W : World} {base : Nat} {t : TypeId} {v : Value}

theorem int_of_cell {u : TypeId} {k : IntKind} {c : Value} (hu : P.underlying u = some (.int k)) (h : Cell.okWide P W .any base u c) : ∃ n, c = .int k n ∧ k.has n := by
  unfold Cell.okWide at h
  rw [hu] at h
  unfold Cell.ok at h
  rw [hu] at h
  cases c <;> simp at h ⊢
  obtain ⟨rfl, h⟩ := h
  exact ⟨_, ⟨rfl, rfl⟩, h⟩

/-- a row of integers of the kinds ks -/
theorem open_row (ks : List IntKind) (h : Value.okWide P W .any base t v) (hrow : ((P.underlying t).map (·.isRow)) = some true)
    (hts : (P.cellTypes P.depth t).map (fun ts => ts.map P.underlying) = some (ks.map fun k => some (.int k))) (hn : P.cellsOf t = ks.length) :
    ∃ z : Nat → Int, v = .agg ((List.range ks.length).map fun i => .int (ks.getD i .u8) (z i)).toArray ∧ (∀ i, i < ks.length → (ks.getD i .u8).has (z i)) ∧ ∀ i, ks.length ≤ i → z i = 0 := by
  have hv : ∃ cs, v = .agg cs ∧ cs.size = P.cellsOf t ∧ Row.okWide P W .any base t cs := by
    unfold Value.okWide at h
    cases hu : P.underlying t with
    | none => rw [hu] at hrow; cases hrow
    | some d => rw [hu] at hrow h; cases d <;> simp [TypeDesc.isRow] at hrow <;> exact h
  obtain ⟨cs, rfl, hs, ts, hct, _, hc⟩ := hv
  rw [hct, Option.map_some, Option.some.injEq] at hts
  have hl : ts.length = ks.length := by simpa using congrArg List.length hts
  have hcell : ∀ i, i < ks.length → ∃ n, cs[i]? = some (.int (ks.getD i .u8) n) ∧ (ks.getD i .u8).has n := by
    intro i hi
    obtain ⟨u, hu, ho⟩ := hc i (cs[i]'(by omega)) (by simp)
    rw [Nat.mod_eq_of_lt (by omega)] at hu
    have : (ts.map P.underlying)[i]? = some (some (.int (ks.getD i .u8))) := by rw [hts]; simp [hi]
    rw [List.getElem?_map, hu, Option.map_some, Option.some.injEq] at this
    obtain ⟨n, he, hh⟩ := int_of_cell this ho
    exact ⟨n, by rw [← he]; simp, hh⟩
  refine ⟨fun i => if h : i < ks.length then (hcell i h).choose else 0, ?_, fun i hi => by simp only [hi, dif_pos]; exact (hcell i hi).choose_spec.2, fun i hi => dif_neg (by omega)⟩
  congr 1
  apply Array.ext_getElem?
  intro i
  by_cases hi : i < ks.length
  · rw [(hcell i hi).choose_spec.1]; simp [hi]
  · simp [hi]; omega

theorem kHas {k : IntKind} {n : Int} (h : k.has n) : k.min ≤ n ∧ n ≤ k.max := h

/-- an integer -/
theorem open_i {k : IntKind} (hu : P.underlying t = some (.int k)) (h : Value.okWide P W .any base t v) : ∃ n, v = .int k n ∧ k.min ≤ n ∧ n ≤ k.max := by
  unfold Value.okWide at h
  rw [hu] at h
  exact int_of_cell hu h
end Go.Proofs.YtnbmmhoofilmfaaGreatDoor

/- super.may, super.WriteDescs. -/
namespace Go.Proofs.YtnbmmhoofilmfaaGreatDoor
open Go.RowKit
set_option linter.unusedVariables false

/-- the cells of descriptors -/
def df (B I D : Nat → Int) (i : Nat) : List Value := [.int .i64 (B i), .int .i64 (I i), .int .i64 (D i)]
theorem df_len (B I D : Nat → Int) (i : Nat) : (df B I D i).length = 3 := rfl
theorem df_ne (B I D : Nat → Int) (i : Nat) : df B I D i ≠ [] := by intro h; cases h
def okD (da im b i d : Int) : Bool := decide (0 ≤ b ∧ b ≤ da ∧ 0 ≤ i ∧ i ≤ im ∧ 0 ≤ d ∧ d ≤ im - i)
theorem okD_iff (da im b i d : Int) : okD da im b i d = true ↔ 0 ≤ b ∧ b ≤ da ∧ 0 ≤ i ∧ i ≤ im ∧ 0 ≤ d ∧ d ≤ im - i := by unfold okD; exact decide_eq_true_iff
theorem okD_no {da im b i d : Int} (h : ¬ (0 ≤ b ∧ b ≤ da ∧ 0 ≤ i ∧ i ≤ im ∧ 0 ≤ d ∧ d ≤ im - i)) : okD da im b i d = false := by unfold okD; exact decide_eq_false h
/-- all of the first n -/
def allB (p : Nat → Bool) : Nat → Bool
  | 0 => true
  | n + 1 => allB p n && p n
theorem allB_iff (p : Nat → Bool) (n : Nat) : allB p n = true ↔ ∀ i, i < n → p i = true := by
  induction n with
  | zero => simp [allB]
  | succ n ih =>
    unfold allB
    rw [Bool.and_eq_true, ih]
    constructor
    · rintro ⟨h, g⟩ i hi
      by_cases e : i = n
      · rw [e]; exact g
      · exact h i (by omega)
    · intro h; exact ⟨fun i hi => h i (by omega), h n (by omega)⟩
theorem allB_no {p : Nat → Bool} {n j : Nat} (hj : j < n) (h : p j = false) : allB p n = false := by
  cases e : allB p n with
  | false => rfl
  | true => have := (allB_iff p n).1 e j hj; rw [h] at this; cases this
/-- may descriptors be, by a geometry? -/
def mayD (G S I J : Int) (n : Nat) (b i d : Nat → Int) : Bool := decide ((n : Int) = G) && allB (fun k => okD (nDa G S I J) I (b k) (i k) (d k)) n

structure MyS (w : World) (G S I J : Int) (a : Option Addr) (n : Nat) (f : Nat → List Value) (W : World) : Prop where
  s : At W w.heap.size 23 (gcells G S I J)
  r : RRow W a 3 n f
  bel : Below w.heap.size w W
theorem MyS.below {w : World} {G S I J : Int} {a : Option Addr} {n : Nat} {f : Nat → List Value} {W W' : World} (h : MyS w G S I J a n f W) (hf : f 0 ≠ []) (hb : Below W.heap.size W W') : MyS w G S I J a n f W' :=
  ⟨h.s.below hb h.s.lt, h.r.below hf hb, h.bel.trans (hb.mono h.bel.size)⟩
theorem info_desc : (Tryz.prog.info? 67).map (·.size) = some 3 := by kernel_rfl
set_option maxRecDepth 100000 in
set_option maxHeartbeats 600000 in
theorem superMay_any (G S I J : Int) (hm : mayG G S I J = true) (a : Option Addr) (n cap : Nat) (b i d : Nat → Int) (hn : (n : Int) ≤ 9223372036854775807) (w : World) (hr : RRow w a 3 n (df b i d)) :
    Calls Tryz.prog 51 #[gval G S I J, .slice a n cap] w fun e w' => e = .returned (.bool (mayD G S I J n b i d)) ∧ Below w.heap.size w w' := by
  have st0 : MyS w G S I J a n (df b i d) (w.alloc (.cells (gcells G S I J) 23)) := ⟨At.new _ _ _, hr.below (df_ne _ _ _ _) ((Below.refl _ _).alloc (Nat.le_refl _) _), (Below.refl _ _).alloc (Nat.le_refl _) _⟩
  have hI : 4 ≤ I ∧ I ≤ 64 := by
    obtain ⟨h1, h2, h3, h4, h5, h6, h7, h8, h9, h10, h11⟩ := (mayG_iff G S I J).1 hm
    exact ⟨h5, h6⟩
  have c0 : (w.alloc (.cells #[.int .i64 G, .int .i64 S, .int .i64 I, .int .i64 J] 23)).cell? ⟨w.heap.size, 0, none⟩ = some (.int .i64 G) := st0.s.cell (i := 0) rfl
  have hgeo := st0.s
  have ST0 := Lib.hid st0
  clear st0 hr hm
  go_enter Tryz.func51, Tryz.ntmps51
  by_cases hg : (n : Int) = G
  rotate_left
  · have hg' : ((n : Int) != G) = true := by simpa using hg
    have HN : Hid (mayD G S I J n b i d = false) := by show _ = _; unfold mayD; simp [hg]
    clear hg
    go_wp2_with fail
    go_ret
    exact ⟨by rw [HN.out]; rfl, ST0.out.bel⟩
  have hg' : ((n : Int) != G) = false := by simpa using hg
  have HD : Hid (mayD G S I J n b i d = allB (fun k => okD (nDa G S I J) I (b k) (i k) (d k)) n) := by show _ = _; unfold mayD; simp [hg]
  clear hg
  go_wp2_with (first | (refine wp_loadAtG rfl 23 _ rfl _ _ _ rfl hgeo Tryz.underlying23 rfl (by kernel_rfl) ?_))
  refine (geoData_any G S I J _).mono ?_
  rintro e w1 ⟨rfl, hb1⟩
  have st1 := ST0.out.below (df_ne _ _ _ _) hb1
  clear ST0 hgeo c0 hb1 hg'
  have hda := nDa_bd G S I J
  generalize nDa G S I J = da at *
  go_wp2_with fail
  go_loopw [17] (fun u wr => ∃ k : Nat, k ≤ n ∧ u = .int .i64 (k : Int) ∧ Hid (allB (fun k => okD da I (b k) (i k) (d k)) k = true) ∧ MyS w G S I J a n (df b i d) wr) (fun u _ => n - (intOf u).toNat)
  case atStart => exact ⟨0, by omega, rfl, rfl, st1⟩
  case round =>
    clear st1
    obtain ⟨k, hk, rfl, HALL, st⟩ := hrel
    by_cases hlt : k < n
    · rcases st.r with h0 | ⟨bb, off, rfl, hsg⟩
      · omega
      have r0 : wr.cell? ⟨bb, off + k * 3, none⟩ = some (.int .i64 (b k)) := hsg k hlt 0 _ rfl
      have r1 : wr.cell? ⟨bb, off + k * 3 + 1, none⟩ = some (.int .i64 (i k)) := hsg k hlt 1 _ rfl
      have r2 : wr.cell? ⟨bb, off + k * 3 + 2, none⟩ = some (.int .i64 (d k)) := hsg k hlt 2 _ rfl
      have hA := At.new wr 67 (dcells (b k) (i k) (d k))
      have d0 : (wr.alloc (.cells #[.int .i64 (b k), .int .i64 (i k), .int .i64 (d k)] 67)).cell? ⟨wr.heap.size, 0, none⟩ = some (.int .i64 (b k)) := hA.cell (i := 0) rfl
      have d1 : (wr.alloc (.cells #[.int .i64 (b k), .int .i64 (i k), .int .i64 (d k)] 67)).cell? ⟨wr.heap.size, 1, none⟩ = some (.int .i64 (i k)) := hA.cell (i := 1) rfl
      have d2 : (wr.alloc (.cells #[.int .i64 (b k), .int .i64 (i k), .int .i64 (d k)] 67)).cell? ⟨wr.heap.size, 2, none⟩ = some (.int .i64 (d k)) := hA.cell (i := 2) rfl
      have g2 : (wr.alloc (.cells #[.int .i64 (b k), .int .i64 (i k), .int .i64 (d k)] 67)).cell? ⟨w.heap.size, 2, none⟩ = some (.int .i64 I) := (st.s.alloc _).cell (i := 2) rfl
      have ST := Lib.hid (st.below (df_ne _ _ _ _) ((Below.refl _ _).alloc (Nat.le_refl _) (.cells (dcells (b k) (i k) (d k)) 67)))
      have HK : Hid (∀ c, okD da I (b k) (i k) (d k) = c → (c = true → allB (fun k => okD da I (b k) (i k) (d k)) (k + 1) = true) ∧ (c = false → allB (fun k => okD da I (b k) (i k) (d k)) n = false)) := fun c hc =>
        ⟨fun h => by show (allB _ k && okD da I (b k) (i k) (d k)) = true; rw [HALL.out, hc, h]; rfl, fun h => allB_no hlt (by rw [hc, h])⟩
      clear hsg hA st HALL
      generalize b k = x at *
      generalize i k = y at *
      generalize d k = v at *
      have hnl : (n : Int) ≤ 9223372036854775807 := hn
      by_cases h1 : 0 ≤ x
      rotate_left
      · have HF : Hid (allB (fun k => okD da I (b k) (i k) (d k)) n = false) := (HK.out false (okD_no fun h => h1 (h.1))).2 rfl
        have q1 : decide (x < 0) = true := by rw [decide_eq_true_eq]; omega
        go_wp2_with fail
        go_ret
        exact ⟨by rw [HD.out, HF.out]; rfl, ST.out.bel⟩
      have q1 : decide (x < 0) = false := by rw [decide_eq_false_iff_not]; omega
      by_cases h2 : x ≤ da
      rotate_left
      · have HF : Hid (allB (fun k => okD da I (b k) (i k) (d k)) n = false) := (HK.out false (okD_no fun h => h2 (h.2.1))).2 rfl
        have q2 : decide (da < x) = true := by rw [decide_eq_true_eq]; omega
        go_wp2_with fail
        go_ret
        exact ⟨by rw [HD.out, HF.out]; rfl, ST.out.bel⟩
      have q2 : decide (da < x) = false := by rw [decide_eq_false_iff_not]; omega
      by_cases h3 : 0 ≤ y
      rotate_left
      · have HF : Hid (allB (fun k => okD da I (b k) (i k) (d k)) n = false) := (HK.out false (okD_no fun h => h3 (h.2.2.1))).2 rfl
        have q3 : decide (y < 0) = true := by rw [decide_eq_true_eq]; omega
        go_wp2_with fail
        go_ret
        exact ⟨by rw [HD.out, HF.out]; rfl, ST.out.bel⟩
      have q3 : decide (y < 0) = false := by rw [decide_eq_false_iff_not]; omega
      by_cases h4 : y ≤ I
      rotate_left
      · have HF : Hid (allB (fun k => okD da I (b k) (i k) (d k)) n = false) := (HK.out false (okD_no fun h => h4 (h.2.2.2.1))).2 rfl
        have q4 : decide (I < y) = true := by rw [decide_eq_true_eq]; omega
        go_wp2_with fail
        go_ret
        exact ⟨by rw [HD.out, HF.out]; rfl, ST.out.bel⟩
      have q4 : decide (I < y) = false := by rw [decide_eq_false_iff_not]; omega
      by_cases h5 : 0 ≤ v
      rotate_left
      · have HF : Hid (allB (fun k => okD da I (b k) (i k) (d k)) n = false) := (HK.out false (okD_no fun h => h5 (h.2.2.2.2.1))).2 rfl
        have q5 : decide (v < 0) = true := by rw [decide_eq_true_eq]; omega
        go_wp2_with fail
        go_ret
        exact ⟨by rw [HD.out, HF.out]; rfl, ST.out.bel⟩
      have q5 : decide (v < 0) = false := by rw [decide_eq_false_iff_not]; omega
      by_cases h6 : v ≤ I - y
      rotate_left
      · have HF : Hid (allB (fun k => okD da I (b k) (i k) (d k)) n = false) := (HK.out false (okD_no fun h => h6 (h.2.2.2.2.2))).2 rfl
        have q6 : decide (I - y < v) = true := by rw [decide_eq_true_eq]; omega
        go_wp2_with fail
        go_ret
        exact ⟨by rw [HD.out, HF.out]; rfl, ST.out.bel⟩
      have q6 : decide (I - y < v) = false := by rw [decide_eq_false_iff_not]; omega
      have HY : Hid (allB (fun k => okD da I (b k) (i k) (d k)) (k + 1) = true) := (HK.out true ((okD_iff _ _ _ _ _).2 ⟨h1, h2, h3, h4, h5, h6⟩)).1 rfl
      go_wp2_with fail
      go_roundw
      case rel => first | exact ⟨k + 1, by omega, by go_num, HY, ST.out⟩ | exact ⟨k + 1, by omega, rfl, HY, ST.out⟩
      case measure => simp [intOf]; omega
    · obtain rfl : k = n := by omega
      go_wp2_with fail
      go_ret
      exact ⟨by rw [HD.out, HALL.out]; rfl, st.bel⟩
end Go.Proofs.YtnbmmhoofilmfaaGreatDoor

/- The frame of a tied law: the listed table; geometries, superblocks, descriptors that came in. -/
namespace Go.Proofs.YtnbmmhoofilmfaaGreatDoor
open Go.RowKit Go.ChangeShapes Go.WideShapes Go.ChangeAt Go.Deep
set_option linter.unusedVariables false

theorem tab_of_laid {W : World} (h : laidMetH Tryz.prog [("quern/crc.steps", Rows.laid_quern_crc_steps)] W) : Tab W := by
  rw [MakeChecks.laidMetH_plain _ _ _ (by kernel_rfl)] at h
  have hT := Lib.tabIs_of_head (zs := tabN.map fun (x : Nat) => (x : Int)) (k := .u32) (g := 0) (by kernel_rfl) (by kernel_rfl) Tryz.underlying263 Tryz.underlying45 (by kernel_rfl) (by kernel_rfl) h
  intro i hi
  have := hT.cell (g := 0) (by kernel_rfl) i (by simpa [tabN] using hi)
  rw [this]
  have key : ∀ i, i < 16 → (tabN.map fun (x : Nat) => (x : Int)).getD i 0 = ((tabN.getD i 0 : Nat) : Int) := by decide
  rw [key i hi]
theorem door_met (os : Os) (args : Array Value) : laidMetH Tryz.prog [("quern/crc.steps", Rows.laid_quern_crc_steps)] ((World.doorLaid Tryz.prog 14 os).forCall (fun _ _ => 0) ⟨#[], args, []⟩).memory :=
  laidMetH_of_parts3 (fuel := 8) (laidMet_of_run' 8 (by kernel_rfl) (by kernel_rfl)) (by kernel_rfl) (by kernel_rfl)

set_option maxRecDepth 100000 in
theorem open_geo {W : World} {base : Nat} {v : Value} (h : Value.okWide Tryz.prog W .any base 23 v) : ∃ G S I J : Int, v = gval G S I J ∧ ∀ x ∈ [G, S, I, J], -9223372036854775808 ≤ x ∧ x ≤ 9223372036854775807 := by
  obtain ⟨z, rfl, hz, _⟩ := open_row [.i64, .i64, .i64, .i64] h (by kernel_rfl) (by kernel_rfl) (by kernel_rfl)
  have k0 := kHas (hz 0 (by decide))
  have k1 := kHas (hz 1 (by decide))
  have k2 := kHas (hz 2 (by decide))
  have k3 := kHas (hz 3 (by decide))
  refine ⟨z 0, z 1, z 2, z 3, rfl, ?_⟩
  simp [List.getD, IntKind.min, IntKind.max, IntKind.signed, IntKind.bits] at k0 k1 k2 k3
  intro x hx
  simp only [List.mem_cons, List.not_mem_nil, or_false] at hx
  rcases hx with rfl | rfl | rfl | rfl <;> omega
end Go.Proofs.YtnbmmhoofilmfaaGreatDoor
