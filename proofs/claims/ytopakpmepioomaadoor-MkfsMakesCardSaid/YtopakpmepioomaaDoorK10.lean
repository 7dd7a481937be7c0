/- Texts of this claim, merged by a program (a claim may have 60 files): U6e. -/
import Derived.Test.YtopakpmepioomaaDoorK09
import Derived.Test.YtopakpmepioomaaDoorK02
/- super.may, super.WriteDescs. -/
namespace Go.Proofs.YtopakpmepioomaaDoor
open Go.RowKit
set_option linter.unusedVariables false

/-- the cells of descriptors -/
def df (B I D : Nat → Int) (i : Nat) : List Value := [.int .i64 (B i), .int .i64 (I i), .int .i64 (D i)]
theorem df_len (B I D : Nat → Int) (i : Nat) : (df B I D i).length = 3 := rfl
theorem df_ne (B I D : Nat → Int) (i : Nat) : df B I D i ≠ [] := by intro h; cases h
theorem df_one (B I D : Nat → Int) (i : Nat) : ∀ v ∈ df B I D i, v.oneCell' = true := by
  intro v hv
  simp only [df, List.mem_cons, List.not_mem_nil, or_false] at hv
  rcases hv with rfl | rfl | rfl <;> rfl
def okD (da im b i d : Int) : Bool := decide (0 ≤ b ∧ b ≤ da ∧ 0 ≤ i ∧ i ≤ im ∧ 0 ≤ d ∧ d ≤ im - i)
theorem okD_iff (da im b i d : Int) : okD da im b i d = true ↔ 0 ≤ b ∧ b ≤ da ∧ 0 ≤ i ∧ i ≤ im ∧ 0 ≤ d ∧ d ≤ im - i := by unfold okD; exact decide_eq_true_iff
theorem okD_no {da im b i d : Int} (h : ¬ (0 ≤ b ∧ b ≤ da ∧ 0 ≤ i ∧ i ≤ im ∧ 0 ≤ d ∧ d ≤ im - i)) : okD da im b i d = false := by unfold okD; exact decide_eq_false h
/-- all of the first n -/
def allB (p : Nat → Bool) : Nat → Bool
  | 0 => true
  | n + 1 => allB p n && p n
theorem allB_iff (p : Nat → Bool) (n : Nat) : allB p n = true ↔ ∀ i, i < n → p i = true := by
  induction n with
  | zero => simp [allB]
  | succ n ih =>
    unfold allB
    rw [Bool.and_eq_true, ih]
    constructor
    · rintro ⟨h, g⟩ i hi
      by_cases e : i = n
      · rw [e]; exact g
      · exact h i (by omega)
    · intro h; exact ⟨fun i hi => h i (by omega), h n (by omega)⟩
theorem allB_no {p : Nat → Bool} {n j : Nat} (hj : j < n) (h : p j = false) : allB p n = false := by
  cases e : allB p n with
  | false => rfl
  | true => have := (allB_iff p n).1 e j hj; rw [h] at this; cases this
/-- may descriptors be, by a geometry? -/
def mayD (G S I J : Int) (n : Nat) (b i d : Nat → Int) : Bool := decide ((n : Int) = G) && allB (fun k => okD (nDa G S I J) I (b k) (i k) (d k)) n

structure MyS (w : World) (G S I J : Int) (a : Option Addr) (n : Nat) (f : Nat → List Value) (W : World) : Prop where
  s : At W w.heap.size 23 (gcells G S I J)
  r : RRow W a 3 n f
  bel : Below w.heap.size w W
theorem MyS.below {w : World} {G S I J : Int} {a : Option Addr} {n : Nat} {f : Nat → List Value} {W W' : World} (h : MyS w G S I J a n f W) (hf : f 0 ≠ []) (hb : Below W.heap.size W W') : MyS w G S I J a n f W' :=
  ⟨h.s.below hb h.s.lt, h.r.below hf hb, h.bel.trans (hb.mono h.bel.size)⟩
/-- like wp_loadRange, for an operation without a guard: what it is comes first, so that it fails at once elsewhere -/
theorem wp_loadRow {P : Program} {w : World} {ops : Array Oper} {rest : List Oper} {o : Oper} {a : Act} {Q : Exit → Act → World → Prop} (T : TypeId) (p : Operand) (ho : o.op = .load T p) (hgd : o.guard = none)
    (g off : Nat) (cs : List Value) (d : TypeDesc) (hx : a.eval p = .pointer (some ⟨g, off, none⟩)) (hI : w.rangeAt g off cs) (hu : P.underlying T = some d) (hd : d.isRow = true) (hi : (P.info? T).map (·.size) = some cs.length)
    (h : wpList P ops Q rest (a.put o.dst (.agg cs.toArray)) w) : wpList P ops Q (o :: rest) a w :=
  wp_loadRange (by unfold Region.wanted; rw [hgd]) T p ho g off cs d hx hI hu hd hi h
theorem info_desc : (Tryd.prog.info? 50).map (·.size) = some 3 := by kernel_rfl
set_option maxRecDepth 100000 in
set_option maxHeartbeats 600000 in
theorem superMay_any (G S I J : Int) (hm : mayG G S I J = true) (a : Option Addr) (n cap : Nat) (b i d : Nat → Int) (hn : (n : Int) ≤ 9223372036854775807) (w : World) (hr : RRow w a 3 n (df b i d)) :
    Calls Tryd.prog 45 #[gval G S I J, .slice a n cap] w fun e w' => e = .returned (.bool (mayD G S I J n b i d)) ∧ Below w.heap.size w w' := by
  have st0 : MyS w G S I J a n (df b i d) (w.alloc (.cells (gcells G S I J) 23)) := ⟨At.new _ _ _, hr.below (df_ne _ _ _ _) ((Below.refl _ _).alloc (Nat.le_refl _) _), (Below.refl _ _).alloc (Nat.le_refl _) _⟩
  have hI : 4 ≤ I ∧ I ≤ 64 := by
    obtain ⟨h1, h2, h3, h4, h5, h6, h7, h8, h9, h10, h11⟩ := (mayG_iff G S I J).1 hm
    exact ⟨h5, h6⟩
  have c0 : (w.alloc (.cells #[.int .i64 G, .int .i64 S, .int .i64 I, .int .i64 J] 23)).cell? ⟨w.heap.size, 0, none⟩ = some (.int .i64 G) := st0.s.cell (i := 0) rfl
  have hgeo := st0.s
  have ST0 := Lib.hid st0
  clear st0 hr hm
  go_enter Tryd.func45, Tryd.ntmps45
  by_cases hg : (n : Int) = G
  rotate_left
  · have hg' : ((n : Int) != G) = true := by simpa using hg
    have HN : Hid (mayD G S I J n b i d = false) := by show _ = _; unfold mayD; simp [hg]
    clear hg
    go_wp2_with fail
    go_ret
    exact ⟨by rw [HN.out]; rfl, ST0.out.bel⟩
  have hg' : ((n : Int) != G) = false := by simpa using hg
  have HD : Hid (mayD G S I J n b i d = allB (fun k => okD (nDa G S I J) I (b k) (i k) (d k)) n) := by show _ = _; unfold mayD; simp [hg]
  clear hg
  go_wp2_with (first | (refine wp_loadAtG rfl 23 _ rfl _ _ _ rfl hgeo Tryd.underlying23 rfl (by kernel_rfl) ?_))
  refine (geoData_any G S I J _).mono ?_
  rintro e w1 ⟨rfl, hb1⟩
  have st1 := ST0.out.below (df_ne _ _ _ _) hb1
  clear ST0 hgeo c0 hb1 hg'
  have hda := nDa_bd G S I J
  generalize nDa G S I J = da at *
  go_wp2_with fail
  go_loopw [17] (fun u wr => ∃ k : Nat, k ≤ n ∧ u = .int .i64 (k : Int) ∧ Hid (allB (fun k => okD da I (b k) (i k) (d k)) k = true) ∧ MyS w G S I J a n (df b i d) wr) (fun u _ => n - (intOf u).toNat)
  case atStart => exact ⟨0, by omega, rfl, rfl, st1⟩
  case round =>
    clear st1
    obtain ⟨k, hk, rfl, HALL, st⟩ := hrel
    by_cases hlt : k < n
    · rcases st.r with h0 | ⟨bb, off, rfl, hsg⟩
      · omega
      have r0 : wr.cell? ⟨bb, off + k * 3, none⟩ = some (.int .i64 (b k)) := hsg k hlt 0 _ rfl
      have r1 : wr.cell? ⟨bb, off + k * 3 + 1, none⟩ = some (.int .i64 (i k)) := hsg k hlt 1 _ rfl
      have r2 : wr.cell? ⟨bb, off + k * 3 + 2, none⟩ = some (.int .i64 (d k)) := hsg k hlt 2 _ rfl
      have hA := At.new wr 50 (dcells (b k) (i k) (d k))
      have d0 : (wr.alloc (.cells #[.int .i64 (b k), .int .i64 (i k), .int .i64 (d k)] 50)).cell? ⟨wr.heap.size, 0, none⟩ = some (.int .i64 (b k)) := hA.cell (i := 0) rfl
      have d1 : (wr.alloc (.cells #[.int .i64 (b k), .int .i64 (i k), .int .i64 (d k)] 50)).cell? ⟨wr.heap.size, 1, none⟩ = some (.int .i64 (i k)) := hA.cell (i := 1) rfl
      have d2 : (wr.alloc (.cells #[.int .i64 (b k), .int .i64 (i k), .int .i64 (d k)] 50)).cell? ⟨wr.heap.size, 2, none⟩ = some (.int .i64 (d k)) := hA.cell (i := 2) rfl
      have g2 : (wr.alloc (.cells #[.int .i64 (b k), .int .i64 (i k), .int .i64 (d k)] 50)).cell? ⟨w.heap.size, 2, none⟩ = some (.int .i64 I) := (st.s.alloc _).cell (i := 2) rfl
      have ST := Lib.hid (st.below (df_ne _ _ _ _) ((Below.refl _ _).alloc (Nat.le_refl _) (.cells (dcells (b k) (i k) (d k)) 50)))
      have HK : Hid (∀ c, okD da I (b k) (i k) (d k) = c → (c = true → allB (fun k => okD da I (b k) (i k) (d k)) (k + 1) = true) ∧ (c = false → allB (fun k => okD da I (b k) (i k) (d k)) n = false)) := fun c hc =>
        ⟨fun h => by show (allB _ k && okD da I (b k) (i k) (d k)) = true; rw [HALL.out, hc, h]; rfl, fun h => allB_no hlt (by rw [hc, h])⟩
      clear hsg hA st HALL
      generalize b k = x at *
      generalize i k = y at *
      generalize d k = v at *
      have hnl : (n : Int) ≤ 9223372036854775807 := hn
      by_cases h1 : 0 ≤ x
      rotate_left
      · have HF : Hid (allB (fun k => okD da I (b k) (i k) (d k)) n = false) := (HK.out false (okD_no fun h => h1 (h.1))).2 rfl
        have q1 : decide (x < 0) = true := by rw [decide_eq_true_eq]; omega
        go_wp2_with fail
        go_ret
        exact ⟨by rw [HD.out, HF.out]; rfl, ST.out.bel⟩
      have q1 : decide (x < 0) = false := by rw [decide_eq_false_iff_not]; omega
      by_cases h2 : x ≤ da
      rotate_left
      · have HF : Hid (allB (fun k => okD da I (b k) (i k) (d k)) n = false) := (HK.out false (okD_no fun h => h2 (h.2.1))).2 rfl
        have q2 : decide (da < x) = true := by rw [decide_eq_true_eq]; omega
        go_wp2_with fail
        go_ret
        exact ⟨by rw [HD.out, HF.out]; rfl, ST.out.bel⟩
      have q2 : decide (da < x) = false := by rw [decide_eq_false_iff_not]; omega
      by_cases h3 : 0 ≤ y
      rotate_left
      · have HF : Hid (allB (fun k => okD da I (b k) (i k) (d k)) n = false) := (HK.out false (okD_no fun h => h3 (h.2.2.1))).2 rfl
        have q3 : decide (y < 0) = true := by rw [decide_eq_true_eq]; omega
        go_wp2_with fail
        go_ret
        exact ⟨by rw [HD.out, HF.out]; rfl, ST.out.bel⟩
      have q3 : decide (y < 0) = false := by rw [decide_eq_false_iff_not]; omega
      by_cases h4 : y ≤ I
      rotate_left
      · have HF : Hid (allB (fun k => okD da I (b k) (i k) (d k)) n = false) := (HK.out false (okD_no fun h => h4 (h.2.2.2.1))).2 rfl
        have q4 : decide (I < y) = true := by rw [decide_eq_true_eq]; omega
        go_wp2_with fail
        go_ret
        exact ⟨by rw [HD.out, HF.out]; rfl, ST.out.bel⟩
      have q4 : decide (I < y) = false := by rw [decide_eq_false_iff_not]; omega
      by_cases h5 : 0 ≤ v
      rotate_left
      · have HF : Hid (allB (fun k => okD da I (b k) (i k) (d k)) n = false) := (HK.out false (okD_no fun h => h5 (h.2.2.2.2.1))).2 rfl
        have q5 : decide (v < 0) = true := by rw [decide_eq_true_eq]; omega
        go_wp2_with fail
        go_ret
        exact ⟨by rw [HD.out, HF.out]; rfl, ST.out.bel⟩
      have q5 : decide (v < 0) = false := by rw [decide_eq_false_iff_not]; omega
      by_cases h6 : v ≤ I - y
      rotate_left
      · have HF : Hid (allB (fun k => okD da I (b k) (i k) (d k)) n = false) := (HK.out false (okD_no fun h => h6 (h.2.2.2.2.2))).2 rfl
        have q6 : decide (I - y < v) = true := by rw [decide_eq_true_eq]; omega
        go_wp2_with fail
        go_ret
        exact ⟨by rw [HD.out, HF.out]; rfl, ST.out.bel⟩
      have q6 : decide (I - y < v) = false := by rw [decide_eq_false_iff_not]; omega
      have HY : Hid (allB (fun k => okD da I (b k) (i k) (d k)) (k + 1) = true) := (HK.out true ((okD_iff _ _ _ _ _).2 ⟨h1, h2, h3, h4, h5, h6⟩)).1 rfl
      go_wp2_with fail
      go_roundw
      case rel => first | exact ⟨k + 1, by omega, by go_num, HY, ST.out⟩ | exact ⟨k + 1, by omega, rfl, HY, ST.out⟩
      case measure => simp [intOf]; omega
    · obtain rfl : k = n := by omega
      go_wp2_with fail
      go_ret
      exact ⟨by rw [HD.out, HALL.out]; rfl, st.bel⟩
end Go.Proofs.YtopakpmepioomaaDoor
