/- Texts of this claim, merged by a program (a claim may have 60 files): Sc0, Sc2, Sc3. -/
import Derived.Test.YtnbmmhoofilmfaaDoorK32
import Derived.Test.YtnbmmhoofilmfaaDoorK35
import Derived.Test.YtnbmmhoofilmfaaDoorK10
import Derived.RegionIn
/- scan, plainly: the transactions with which blocks begin, one behind the other. -/
namespace Go.Proofs.YtnbmmhoofilmfaaDoor
open Go.RowKit
set_option linter.unusedVariables false

theorem unp_pos {L : Nat → Nat → Int} (hL : ∀ i, Byt (L i)) {N : Nat} {s : Int} (hs : 0 ≤ s ∧ s < 4294967296) {t : Tr} {u : Nat} (h : unp L N s = some (t, u)) : 0 < u ∧ u ≤ N ∧ u ≤ 255 ∧ t.Ok ∧ t.s = s ∧ packE t = 0 ∧ u = t.c + 1 := by
  unfold unp at h
  split at h
  · cases h
  · rename_i t' u' he
    split at h
    · rename_i hc
      injection h with h
      injection h with e1 e2
      subst e1 e2
      obtain ⟨h1, h2, h3⟩ := prs_pok hL _ 0 _ _ _ (POk.zero s) (Nat.zero_le _) he
      have h4 := hc.2
      unfold sameB at h4
      rw [Bool.and_eq_true, beq_iff_eq] at h4
      exact ⟨h3, by omega, by omega, h1.ok hs (by omega), h1.s, hc.1, h4.1.symm⟩
    · cases h
theorem unp_seq {L : Nat → Nat → Int} {N : Nat} {s : Int} (h : seqOf (L 0) ≠ s) : unp L N s = none := by
  have : prs L (min N 255) s (min N 255) 0 (tr0 s) = none := by
    by_cases h0 : 0 < min N 255
    · have := prs_step L (min N 255) s 0 (tr0 s) h0
      rw [show min N 255 - 0 = min N 255 by omega] at this
      rw [this, if_neg h]
    · rw [show min N 255 = 0 by omega]; rfl
  unfold unp; rw [this]
def fndF (L : Nat → Nat → Int) (N : Nat) : Nat → Nat → Int → List Tr
  | 0, _, _ => []
  | f + 1, k, s => if k < N ∧ s ≤ 2147483648 then (match unp (fun i => L (k + i)) (N - k) s with | none => [] | some (t, u) => t :: fndF L N f (k + u) (s + 1)) else []
/-- the transactions with which the blocks from k on begin, the first one with the number s -/
def fnd (L : Nat → Nat → Int) (N k : Nat) (s : Int) : List Tr := fndF L N (N - k) k s
section
variable {L : Nat → Nat → Int} {N : Nat}
theorem fndF_fuel (hL : ∀ i, Byt (L i)) : ∀ (f g k : Nat) (s : Int), 0 ≤ s → N - k ≤ f → N - k ≤ g → fndF L N f k s = fndF L N g k s
  | 0, 0, k, s, _, _, _ => rfl
  | 0, g + 1, k, s, _, h, _ => by rw [fndF, fndF, if_neg (fun h' => by omega)]
  | f + 1, 0, k, s, _, _, h => by rw [fndF, fndF, if_neg (fun h' => by omega)]
  | f + 1, g + 1, k, s, h0, h1, h2 => by
    rw [fndF, fndF]
    by_cases hc : k < N ∧ s ≤ 2147483648
    · rw [if_pos hc, if_pos hc]
      cases hu : unp (fun i => L (k + i)) (N - k) s with
      | none => rfl
      | some p =>
        obtain ⟨t, u⟩ := p
        have := unp_pos (fun i => hL (k + i)) ⟨h0, by omega⟩ hu
        show t :: _ = t :: _
        rw [fndF_fuel hL f g (k + u) (s + 1) (by omega) (by omega) (by omega)]
    · rw [if_neg hc, if_neg hc]
theorem fnd_stop {k : Nat} {s : Int} (h : ¬ (k < N ∧ s ≤ 2147483648)) : fnd L N k s = [] := by
  unfold fnd
  cases N - k with
  | zero => rfl
  | succ f => rw [fndF, if_neg h]
theorem fnd_none {k : Nat} {s : Int} (h : unp (fun i => L (k + i)) (N - k) s = none) : fnd L N k s = [] := by
  unfold fnd
  cases hf : N - k with
  | zero => rfl
  | succ f =>
    rw [fndF, h]
    split <;> rfl
theorem fnd_some (hL : ∀ i, Byt (L i)) {k : Nat} {s : Int} (h0 : 0 ≤ s) (hk : k < N) (hs : s ≤ 2147483648) {t : Tr} {u : Nat} (h : unp (fun i => L (k + i)) (N - k) s = some (t, u)) : fnd L N k s = t :: fnd L N (k + u) (s + 1) := by
  have hp := unp_pos (fun i => hL (k + i)) ⟨h0, by omega⟩ h
  unfold fnd
  obtain ⟨f, hf⟩ : ∃ f, N - k = f + 1 := ⟨N - k - 1, by omega⟩
  rw [hf, fndF, if_pos ⟨hk, hs⟩, h]
  show t :: _ = t :: _
  rw [fndF_fuel hL f (N - (k + u)) (k + u) (s + 1) (by omega) (by omega) (Nat.le_refl _)]
theorem fnd_bound (hL : ∀ i, Byt (L i)) : ∀ (d k : Nat) (s : Int), 0 ≤ s → d = N - k → (fnd L N k s).length ≤ d ∧ ∀ t ∈ fnd L N k s, t.Ok ∧ packE t = 0 ∧ s ≤ t.s ∧ t.s ≤ 2147483648
  | d, k, s, h0, hd => by
    by_cases hc : k < N ∧ s ≤ 2147483648
    · cases hu : unp (fun i => L (k + i)) (N - k) s with
      | none => rw [fnd_none hu]; exact ⟨Nat.zero_le _, fun t ht => by cases ht⟩
      | some p =>
        obtain ⟨t, u⟩ := p
        have hp := unp_pos (fun i => hL (k + i)) ⟨h0, by omega⟩ hu
        have ih := fnd_bound hL (N - (k + u)) (k + u) (s + 1) (by omega) rfl
        rw [fnd_some hL h0 hc.1 hc.2 hu]
        refine ⟨by rw [List.length_cons]; omega, fun x hx => ?_⟩
        rcases List.mem_cons.1 hx with rfl | hx
        · exact ⟨hp.2.2.2.1, hp.2.2.2.2.2.1, by rw [hp.2.2.2.2.1]; omega, by rw [hp.2.2.2.2.1]; omega⟩
        · have := ih.2 x hx
          exact ⟨this.1, this.2.1, by omega, this.2.2.2⟩
    · rw [fnd_stop hc]; exact ⟨Nat.zero_le _, fun t ht => by cases ht⟩
termination_by d => d
decreasing_by omega
/-- the k-th one bears the number s + k -/
theorem fnd_seq (hL : ∀ i, Byt (L i)) : ∀ (d k : Nat) (s : Int), 0 ≤ s → d = N - k → ∀ (i : Nat) (t : Tr), (fnd L N k s)[i]? = some t → t.s = s + i
  | d, k, s, h0, hd, i, t, ht => by
    by_cases hc : k < N ∧ s ≤ 2147483648
    · cases hu : unp (fun i => L (k + i)) (N - k) s with
      | none => rw [fnd_none hu] at ht; simp at ht
      | some p =>
        obtain ⟨t', u⟩ := p
        have hp := unp_pos (fun i => hL (k + i)) ⟨h0, by omega⟩ hu
        rw [fnd_some hL h0 hc.1 hc.2 hu] at ht
        cases i with
        | zero =>
          simp at ht
          subst ht
          rw [hp.2.2.2.2.1]; simp
        | succ i =>
          simp at ht
          have := fnd_seq hL (N - (k + u)) (k + u) (s + 1) (by omega) rfl i t ht
          rw [this]; push_cast; omega
    · rw [fnd_stop hc] at ht; simp at ht
termination_by d => d
decreasing_by omega
/-- blocks in which transactions stand one behind the other from k on, and behind them nothing of the next number -/
inductive Laid (L : Nat → Nat → Int) (N : Nat) : Nat → Int → List Tr → Prop
  | nil {k : Nat} {s : Int} (h : k < N → seqOf (L k) ≠ s) : Laid L N k s []
  | cons {k : Nat} {s : Int} {t : Tr} {l : List Tr} (ht : t.Ok) (hz : ∀ i, t.n ≤ i → t.cd i = fun _ => 0) (hE : packE t = 0) (hs : t.s = s) (hN : k + (t.c + 1) ≤ N) (hl : ∀ i, i ≤ t.c → L (k + i) = pkB t i) (h : Laid L N (k + (t.c + 1)) (s + 1) l) : Laid L N k s (t :: l)
theorem fnd_laid (hL : ∀ i, Byt (L i)) {k : Nat} {s : Int} {l : List Tr} (h : Laid L N k s l) : 0 ≤ s → s + l.length ≤ 2147483648 → fnd L N k s = l := by
  induction h with
  | nil h =>
    rename_i k s
    intro h0 h1
    by_cases hk : k < N
    · exact fnd_none (unp_seq (h hk))
    · exact fnd_stop (fun h' => hk h'.1)
  | cons ht hz hE hs hN hl h ih =>
    rename_i k s t l
    intro h0 h1
    rw [List.length_cons] at h1
    have hu := unp_pack (L := fun i => L (k + i)) (N := N - k) ht hz hE (by omega) hl
    rw [hs] at hu
    rw [fnd_some hL h0 (by omega) (by omega) hu, ih (by omega) (by omega)]
end
end Go.Proofs.YtnbmmhoofilmfaaDoor

/- scan.outside. -/
namespace Go.Proofs.YtnbmmhoofilmfaaDoor
open Go.RowKit
set_option linter.unusedVariables false

/-- all of the first n -/
def allQ (p : Nat → Bool) : Nat → Bool
  | 0 => true
  | n + 1 => allQ p n && p n
theorem allQ_iff (p : Nat → Bool) (n : Nat) : allQ p n = true ↔ ∀ i, i < n → p i = true := by
  induction n with
  | zero => exact ⟨fun _ i hi => absurd hi (Nat.not_lt_zero _), fun _ => rfl⟩
  | succ n ih =>
    rw [allQ, Bool.and_eq_true, ih]
    constructor
    · rintro ⟨h1, h2⟩ i hi
      rcases Nat.lt_succ_iff_lt_or_eq.1 hi with h | h
      · exact h1 i h
      · rw [h]; exact h2
    · exact fun h => ⟨fun i hi => h i (by omega), h n (by omega)⟩
/-- are all blocks that a transaction names outside of the journal? -/
def outT (G S I J : Int) (n : Nat) (cb : Nat → Int) (m : Nat) (rv : Nat → Int) : Bool := allQ (fun i => outB G S I J (cb i)) n && allQ (fun i => outB G S I J (rv i)) m
theorem allQ_no {p : Nat → Bool} {n k : Nat} (hk : k < n) (h : p k = false) : allQ p n = false := by
  cases hb : allQ p n with
  | false => rfl
  | true => rw [(allQ_iff p n).1 hb k hk] at h; cases h
structure OuS (w : World) (G S I J s : Int) (ca : Option Addr) (n cc : Nat) (cb : Nat → Int) (cd : Nat → Nat → Int) (ra : Option Addr) (m rc : Nat) (rv : Nat → Int) (W : World) : Prop where
  g : At W w.heap.size 23 (gcells G S I J)
  t : At W (w.heap.size + 1) 51 (tcells s ca n cc ra m rc)
  c : RRow W ca 257 n (cpF cb cd)
  v : RRow W ra 1 m (inF rv)
  bel : Below w.heap.size w W
theorem OuS.below {w : World} {G S I J s : Int} {ca : Option Addr} {n cc : Nat} {cb : Nat → Int} {cd : Nat → Nat → Int} {ra : Option Addr} {m rc : Nat} {rv : Nat → Int} {W W' : World} (h : OuS w G S I J s ca n cc cb cd ra m rc rv W) (hb : Below W.heap.size W W') : OuS w G S I J s ca n cc cb cd ra m rc rv W' :=
  ⟨h.g.below hb h.g.lt, h.t.below hb h.t.lt, h.c.below (by intro e; cases e) hb, h.v.below (by intro e; cases e) hb, h.bel.trans (hb.mono h.bel.size)⟩
theorem OuS.only {w : World} {G S I J s : Int} {ca : Option Addr} {n cc : Nat} {cb : Nat → Int} {cd : Nat → Nat → Int} {ra : Option Addr} {m rc : Nat} {rv : Nat → Int} {W W' : World} {p : Nat} (h : OuS w G S I J s ca n cc cb cd ra m rc rv W) (ho : Only p W W') (hp : w.heap.size + 1 < p)
    (hc : ∀ b off, ca = some ⟨b, off, none⟩ → 0 < n → b ≠ p) (hr : ∀ b off, ra = some ⟨b, off, none⟩ → 0 < m → b ≠ p) : OuS w G S I J s ca n cc cb cd ra m rc rv W' :=
  ⟨h.g.only ho (by omega), h.t.only ho (by omega), by
    rcases h.c with h0 | h0
    · exact .inl h0
    · rcases Nat.eq_zero_or_pos n with e | e
      · exact .inl e
      · exact RRow.only (.inr h0) ho fun b off e' => hc b off e' e, by
    rcases h.v with h0 | h0
    · exact .inl h0
    · rcases Nat.eq_zero_or_pos m with e | e
      · exact .inl e
      · exact RRow.only (.inr h0) ho fun b off e' => hr b off e' e, h.bel.trans (ho.below (by omega))⟩
theorem rrow_old {W : World} {a : Option Addr} {m n : Nat} {f : Nat → List Value} (h : RRow W a m n f) (hf : ∀ i, (f i).length = m) (hm : 0 < m) : ∀ b off, a = some ⟨b, off, none⟩ → 0 < n → b < W.heap.size := fun b off e hn => by
  rcases h with h | ⟨b', off', e', h⟩
  · omega
  · rw [e] at e'
    injection e' with e'
    injection e' with e1 e2
    subst e1 e2
    obtain ⟨v, hv⟩ : ∃ v, (f 0)[0]? = some v := ⟨_, List.getElem?_eq_getElem (by rw [hf]; exact hm)⟩
    exact World.block_lt_of_cell? W _ (h 0 hn 0 v hv)

set_option maxRecDepth 100000 in
set_option maxHeartbeats 4000000 in
theorem outsideT_any (G S I J s : Int) (n m : Nat) (cb : Nat → Int) (cd : Nat → Nat → Int) (rv : Nat → Int) (ca : Option Addr) (cc : Nat) (ra : Option Addr) (rc : Nat) (hcb : ∀ i, -9223372036854775808 ≤ cb i ∧ cb i ≤ 9223372036854775807) (hrv : ∀ i, -9223372036854775808 ≤ rv i ∧ rv i ≤ 9223372036854775807) (hn : (n : Int) ≤ 9223372036854775807) (hm : (m : Int) ≤ 9223372036854775807)
    (w : World) (hc : RRow w ca 257 n (cpF cb cd)) (hr : RRow w ra 1 m (inF rv)) :
    Calls Tryd.prog 58 #[gval G S I J, tval s ca n cc ra m rc] w fun e w' => e = .returned (.bool (outT G S I J n cb m rv)) ∧ Below w.heap.size w w' := by
  have halc := zero_copy
  have hW : Hid (OuS w G S I J s ca n cc cb cd ra m rc rv ((w.alloc (.cells (gcells G S I J) 23)).alloc (.cells (tcells s ca n cc ra m rc) 51))) := by
    have h2 := At.new (w.alloc (.cells (gcells G S I J) 23)) 51 (tcells s ca n cc ra m rc)
    rw [World.size_alloc] at h2
    exact ⟨(At.new w _ _).alloc _, h2, (hc.alloc _).alloc _, (hr.alloc _).alloc _, ((Below.refl _ _).alloc (Nat.le_refl _) _).alloc (by simp) _⟩
  have HT : Hid (outT G S I J n cb m rv = (allQ (fun i => outB G S I J (cb i)) n && allQ (fun i => outB G S I J (rv i)) m)) := rfl
  have HCB := Lib.hid hcb
  have HRV := Lib.hid hrv
  have hc1 := hW.out.t.cell (i := 1) (v := .slice ca n cc) rfl
  clear hc hr hcb hrv
  go_enter Tryd.func58, Tryd.ntmps58
  go_wp2_with fail
  go_loopw [12] (fun u wr => ∃ k : Nat, u = .int .i64 (k : Int) ∧ k ≤ n ∧ (∀ i, i < k → outB G S I J (cb i) = true) ∧ OuS w G S I J s ca n cc cb cd ra m rc rv wr) (fun u _ => n - (intOf u).toNat)
  case atStart => exact ⟨0, rfl, Nat.zero_le _, fun i hi => absurd hi (Nat.not_lt_zero _), hW.out⟩
  case round =>
    clear hW hc1
    obtain ⟨k, rfl, hk, hall, st⟩ := hrel
    have HALL := Lib.hid hall
    clear hall
    by_cases hlt : k < n
    · have hlt' : (k : Int) < (n : Int) := by omega
      have k0 : (0 : Int) ≤ (k : Int) := by omega
      obtain ⟨b, off, rfl, hsg⟩ : ∃ b off, ca = some ⟨b, off, none⟩ ∧ RSeg wr b off 257 n (cpF cb cd) := by
        rcases st.c with h | h
        · omega
        · exact h
      have hrg : wr.rangeAt b (off + k * 257) (cpc (cb k) (cd k)) := hsg.range k hlt
      have hrg' := rangeAt_below hrg ((Below.refl wr.heap.size wr).alloc (Nat.le_refl _) (.cells (ccells 0 fun _ => 0) 101)) (World.block_lt_of_cell? wr _ (hrg 0 _ rfl))
      have hA := At.new wr 101 (ccells 0 fun _ => 0)
      have st1 := Lib.hid (st.below ((Below.refl _ _).alloc (Nat.le_refl _) (.cells (ccells 0 fun _ => 0) 101)))
      have hsz := st.t.lt
      have HO1 := Lib.hid (rrow_old st.c (cpF_len _ _) (by omega))
      have HO2 := Lib.hid (rrow_old st.v (inF_len _) (by omega))
      clear st hsg
      go_wp2_with (first | (refine wp_loadMid rfl 101 _ rfl b (off + k * 257) (cpc (cb k) (cd k)) _ rfl hrg Tryd.underlying101 rfl (by rw [cpc_len]; exact info_copy) ?_) | (refine wp_loadMid rfl 101 _ rfl b (off + k * 257) (cpc (cb k) (cd k)) _ rfl hrg' Tryd.underlying101 rfl (by rw [cpc_len]; exact info_copy) ?_) | (refine wp_storeAt rfl 101 (.tmp 6) (.tmp 15) rfl wr.heap.size (ccells (cb k) (cd k)) _ rfl rfl hA (info_copy' _ _) (by rw [ccells_size, ccells_size]) (ccells_one _ _) ?_))
      intro w1 hC1 ho1
      have st2 := Lib.hid (st1.out.only ho1 (by omega) (fun b' off' e h0 => by have := HO1.out b' off' e h0; omega) (fun b' off' e h0 => by have := HO2.out b' off' e h0; omega))
      have hcc : w1.cell? ⟨wr.heap.size, 0, none⟩ = some (.int .i64 (cb k)) := hC1.cell (i := 0) rfl
      have hg := st2.out.g
      clear st1 hrg hrg' hA ho1 hC1
      go_wp2_with (first | (refine wp_loadAtG rfl 23 (.tmp 2) rfl _ _ _ rfl hg Tryd.underlying23 rfl (by kernel_rfl) ?_))
      refine (outside_any G S I J (cb k) (HCB.out k).1 (HCB.out k).2 w1).mono ?_
      rintro e w2 ⟨rfl, hb2⟩
      have ST1 := Lib.hid (st2.out.below hb2)
      clear st2 hg hcc hb2
      cases ho : outB G S I J (cb k) with
      | false =>
        have HO : Hid (outT G S I J n cb m rv = false) := by
          show _ = _
          rw [HT.out, allQ_no (p := fun i => outB G S I J (cb i)) hlt ho, Bool.false_and]
        clear ho
        go_wp2_with fail
        go_ret
        exact ⟨by rw [HO.out]; rfl, ST1.out.bel⟩
      | true =>
        have HALL' : Hid (∀ i, i < k + 1 → outB G S I J (cb i) = true) := fun i hi => by
          rcases Nat.lt_succ_iff_lt_or_eq.1 hi with h | h
          · exact HALL.out i h
          · rw [h]; exact ho
        clear ho HALL
        go_wp2_with fail
        go_roundw
        case rel => first | exact ⟨k + 1, by first | rfl | go_num, by omega, HALL'.out, ST1.out⟩ | ((repeat apply Exists.intro); exact ⟨⟨k + 1, by first | rfl | go_num, by omega, HALL'.out, ST1.out⟩, rfl⟩)
        case measure => simp [intOf]; omega
    · obtain rfl : k = n := by omega
      have hc2 := st.t.cell (i := 2) (v := .slice ra m rc) rfl
      have ST := Lib.hid st
      have HA1 : Hid (allQ (fun i => outB G S I J (cb i)) k = true) := (allQ_iff _ _).2 HALL.out
      clear st HALL
      go_wp2_with fail
      go_loopw [25] (fun u wr => ∃ q : Nat, u = .int .i64 (q : Int) ∧ q ≤ m ∧ (∀ i, i < q → outB G S I J (rv i) = true) ∧ OuS w G S I J s ca k cc cb cd ra m rc rv wr) (fun u _ => m - (intOf u).toNat)
      case atStart => exact ⟨0, rfl, Nat.zero_le _, fun i hi => absurd hi (Nat.not_lt_zero _), ST.out⟩
      case round =>
        clear ST hc2
        obtain ⟨q, rfl, hq, hall, st⟩ := hrel
        have HALL := Lib.hid hall
        clear hall
        by_cases hlt : q < m
        · have hlt' : (q : Int) < (m : Int) := by omega
          have q0 : (0 : Int) ≤ (q : Int) := by omega
          obtain ⟨b, off, rfl, hsg⟩ : ∃ b off, ra = some ⟨b, off, none⟩ ∧ RSeg wr b off 1 m (inF rv) := by
            rcases st.v with h | h
            · omega
            · exact h
          have hrc : wr.cell? ⟨b, off + q, none⟩ = some (.int .i64 (rv q)) := by have := hsg q hlt 0 (.int .i64 (rv q)) rfl; rwa [Nat.mul_one, Nat.add_zero] at this
          have hx := HRV.out q
          have hg := st.g
          have ST := Lib.hid st
          clear st hsg
          go_wp2_with (first | (refine wp_loadAtG rfl 23 (.tmp 2) rfl _ _ _ rfl hg Tryd.underlying23 rfl (by kernel_rfl) ?_))
          refine (outside_any G S I J (rv q) (HRV.out q).1 (HRV.out q).2 wr).mono ?_
          rintro e w1 ⟨rfl, hb1⟩
          have ST1 := Lib.hid (ST.out.below hb1)
          clear ST hg hrc hb1
          cases ho : outB G S I J (rv q) with
          | false =>
            have HO : Hid (outT G S I J k cb m rv = false) := by
              show _ = _
              rw [HT.out, allQ_no (p := fun i => outB G S I J (rv i)) hlt ho, Bool.and_false]
            clear ho
            go_wp2_with fail
            go_ret
            exact ⟨by rw [HO.out]; rfl, ST1.out.bel⟩
          | true =>
            have HALL' : Hid (∀ i, i < q + 1 → outB G S I J (rv i) = true) := fun i hi => by
              rcases Nat.lt_succ_iff_lt_or_eq.1 hi with h | h
              · exact HALL.out i h
              · rw [h]; exact ho
            clear ho HALL
            go_wp2_with fail
            go_roundw
            case rel => first | exact ⟨q + 1, by first | rfl | go_num, by omega, HALL'.out, ST1.out⟩ | ((repeat apply Exists.intro); exact ⟨⟨q + 1, by first | rfl | go_num, by omega, HALL'.out, ST1.out⟩, rfl⟩)
            case measure => simp [intOf]; omega
        · obtain rfl : q = m := by omega
          have HO : Hid (outT G S I J k cb q rv = true) := by
            show _ = _
            rw [HT.out, HA1.out, (allQ_iff _ _).2 HALL.out]; rfl
          have ST := Lib.hid st
          clear st
          go_wp2_with fail
          go_ret
          exact ⟨by rw [HO.out]; rfl, ST.out.bel⟩
end Go.Proofs.YtnbmmhoofilmfaaDoor

/- scan.found: the iterator over transactions. -/
namespace Go.Proofs.YtnbmmhoofilmfaaDoor
open Go.RowKit
set_option linter.unusedVariables false

/-- what the iterator wants of memory -/
structure FnN (q bs bl : Nat) (L : Nat → Nat → Int) (N : Nat) (s : Int) (W : World) : Prop where
  s : At W bs 34 #[.int .u32 s]
  l : At W bl 24 #[.slice (some ⟨q, 0, none⟩) N N]
  a : RArr W q 32 256 N (bkF L)
  t : Tab W
theorem FnN.below {q bs bl : Nat} {L : Nat → Nat → Int} {N : Nat} {s : Int} {W W' : World} (h : FnN q bs bl L N s W) (hb : Below W.heap.size W W') : FnN q bs bl L N s W' :=
  ⟨h.s.below hb h.s.lt, h.l.below hb h.l.lt, h.a.below hb, h.t.below hb (Nat.le_refl _)⟩
/-- the k-th transaction of a list, as a value in memory that is new -/
def TrV (B : Nat) (l : List Tr) (k : Nat) (cs : Array Value) (W : World) : Prop :=
  ∃ t ca cc ra rc, l[k]? = some t ∧ cs = tcells t.s ca t.n cc ra t.m rc ∧ RMine W B 101 257 (.slice ca t.n cc) t.n (cpF t.cb t.cd) ∧ RMine W B 3 1 (.slice ra t.m rc) t.m (inF t.rv)
theorem grown_none {A C : World} (hb : Below A.heap.size A C) : A.grownBy C none := grown_below hb

set_option maxRecDepth 100000 in
theorem cutB_lhm (g off len cap lo hi : Nat) (l h m : Int) (hl : l = (lo : Int)) (hh : h = (hi : Int)) (hm : m = (hi : Int)) (h1 : lo < hi) (h2 : hi ≤ cap) (w : World) :
    (Instr.slice 24 (.slice (some ⟨g, off, none⟩) len cap) (some (.int .i64 l)) (some (.int .i64 h)) (some (.int .i64 m))).run Tryd.prog w = .ok (.slice (some ⟨g, off + lo * 256, none⟩) (hi - lo) (hi - lo)) w := by
  subst hl hh hm
  have hsz : (Go.sizeOf 32).run Tryd.prog w = .ok 256 w := by kernel_rfl
  rw [run_slice_lhm w 24 _ len cap (by kernel_rfl) .i64 .i64 .i64 (lo : Int) (hi : Int) (hi : Int) (by omega) (by omega) (by omega) (by omega), show Tryd.prog.elem 24 = 32 from by kernel_rfl, hsz]
  simp only [Result.andThen, sliced, Int.toNat_natCast]
  rw [if_neg (by omega), Option.map_some, addr_add]

set_option maxRecDepth 100000 in
set_option maxHeartbeats 4000000 in
theorem found_iter (f : Nat) (hf : 1 ≤ f) (B q bs bl : Nat) (L : Nat → Nat → Int) (hL : ∀ i, Byt (L i)) (N : Nat) (hN : N ≤ 255) (s : Int) (hs : 0 ≤ s ∧ s ≤ 2147483648) (hbs : bs < B) (hbl : bl < B) (hq : q < B) (l : List Tr) (hl : fnd L N 0 s = l) :
    IterV Fence.wide f Tryd.prog 100 #[.pointer (some ⟨bs, 0, none⟩), .pointer (some ⟨bl, 0, none⟩)] (fun k vs W => ∃ cs, vs = #[.agg cs] ∧ TrV B l k cs W) l.length (fun _ => False) (fun _ W => B ≤ W.heap.size ∧ FnN q bs bl L N s W) := by
  intro lp J Jx W hJt hJxt hY h0 hN0
  have HY := Lib.hid hY
  have HJT : Hid (∀ k A C, J k A → Below A.heap.size A C → J k C) := fun k A C h hb => hJt k A C h ⟨none, grown_below hb, fun r e => by cases e⟩
  have HFL := Lib.hid hl
  have HBL := Lib.hid hL
  have halt := zero_trans
  clear hY hJt hJxt hl hL
  have c0 : W.cell? ⟨bs, 0, none⟩ = some (.int .u32 s) := hN0.2.s.cell (i := 0) rfl
  refine callsIn_of_wp Tryd.func100 rfl trivial ?_ rfl
  simp only [Tryd.ntmps100, List.size_toArray, List.length_cons, List.length_nil, Nat.reduceAdd, Nat.reduceSub, Array.replicate_succ, Array.replicate_zero, List.push_toArray, List.append_toArray, List.nil_append, List.cons_append]
  gi_wp2
  gi_region
  have hN1 : B ≤ W.drew.heap.size ∧ FnN q bs bl L N s W.drew := ⟨hN0.1, hN0.2.below (Below.refl _ _).drew⟩
  have h1 : J 0 W.drew := HJT.out _ _ _ h0 (Below.refl _ _).drew
  clear c0 hN0 h0
  gi_wp2
  gi_loopw [4, 5] (fun u v wr => ∃ (k a : Nat) (sk : Int), u = .int .i64 (a : Int) ∧ v = .int .u32 sk ∧ sk = s + (k : Int) ∧ a ≤ N ∧ k ≤ l.length ∧ l.drop k = fnd L N a sk ∧ sk ≤ 2147483649 ∧ J k wr ∧ B ≤ wr.heap.size ∧ FnN q bs bl L N s wr) (fun u _ _ => N - (intOf u).toNat)
  case atStart => exact ⟨0, 0, s, rfl, rfl, by simp, Nat.zero_le _, Nat.zero_le _, by rw [HFL.out]; rfl, by omega, h1, hN1.1, hN1.2⟩
  case round =>
    clear h1 hN1
    obtain ⟨k, a, sk, rfl, rfl, hsk, ha, hk, hd, hs9, hJ, hB, hnd⟩ := hrel
    have HSK := Lib.hid hsk
    have HD := Lib.hid hd
    have hs0 : 0 ≤ sk := by omega
    have c1 : wr.cell? ⟨bl, 0, none⟩ = some (.slice (some ⟨q, 0, none⟩) N N) := hnd.l.cell (i := 0) rfl
    clear hsk hd
    by_cases hlt : a < N
    · have hlt' : (a : Int) < (N : Int) := by omega
      have a0 : (0 : Int) ≤ (a : Int) := by omega
      by_cases hmx : sk ≤ 2147483648
      · have hwr : IntKind.u32.wrap (sk + 1) = sk + 1 := IntWalk.u32_in _ (by omega)
        have hcut := fun W => cutB_lhm q 0 N N a N (a : Int) (N : Int) (N : Int) rfl rfl rfl hlt (Nat.le_refl _) W
        rw [Nat.zero_add] at hcut
        have hrow : RRow wr (some ⟨q, a * 256, none⟩) 256 (N - a) (bkF fun i => L (a + i)) := by
          refine .inr ⟨q, _, rfl, ?_⟩
          have := hnd.a.seg.sub a (N - a) (by omega)
          rw [Nat.zero_add] at this
          exact this
        have hcall := unpack_any (some ⟨q, a * 256, none⟩) (N - a) (N - a) (fun i => L (a + i)) (fun i => HBL.out _) sk ⟨hs0, by omega⟩ (Nat.le_refl _) (by omega) wr hnd.t hrow (fun b off e => by injection e with e; injection e with e _; subst e; omega)
        have HCALL := Lib.hid hcall
        have HST : Hid (J k wr ∧ B ≤ wr.heap.size ∧ FnN q bs bl L N s wr) := ⟨hJ, hB, hnd⟩
        clear hrow hcall hJ hnd
        gi_wp2
        refine ⟨trivial, ?_⟩
        refine (callsIn_wide.2 HCALL.out).mono ?_
        rintro e w2 ⟨hp, hb2⟩
        clear HCALL hcut
        have hA2 := At.new w2 51 (tcells 0 none 0 0 none 0 0)
        have hz2 : Below wr.heap.size wr (w2.alloc (.cells (tcells 0 none 0 0 none 0 0) 51)) := hb2.alloc hb2.size _
        have hw2 := hb2.size
        rcases hp with ⟨hR, rfl⟩ | ⟨t, u, ca, cc, ra, rc, hR, rfl, hC, hV⟩
        · have HEND : Hid (k = l.length) := by
            show _ = _
            have h := HD.out
            rw [fnd_none hR, List.drop_eq_nil_iff] at h
            omega
          clear hR hb2
          gi_wp2_with (first | (refine wpIn_storeAt rfl 51 (.tmp 6) (.tmp 30) rfl w2.heap.size (tcells 0 none 0 0 none 0 0) (tcells 0 none 0 0 none 0 0) rfl rfl hA2 (info_trans 0 none 0 0 none 0 0) rfl (by kernel_rfl) ?_))
          intro w3 hA3 ho3
          have hJ3 := Lib.hid (HJT.out _ _ _ HST.out.1 (hz2.trans (ho3.below hw2)))
          clear hA2 hz2 ho3
          gi_wp2
          refine bodyPost_ret (results_none rfl _ _ _) rfl ?_
          exact ⟨⟨_, rfl⟩, .inl (by rw [← HEND.out]; exact hJ3.out)⟩
        · obtain ⟨hu0, huN, hu255, htok, hts, hte, htc⟩ := unp_pos (fun i => HBL.out _) ⟨hs0, by omega⟩ hR
          have hnext := fnd_some HBL.out hs0 hlt hmx hR
          have hd2 := HD.out
          rw [hnext] at hd2
          have hkl : k < l.length := by
            rcases Nat.lt_or_ge k l.length with h | h
            · exact h
            · rw [List.drop_eq_nil_iff.2 h] at hd2; cases hd2
          have hget : l[k]? = some t := by
            have := congrArg (fun x => x[0]?) hd2
            simpa using this
          have hdrop : l.drop (k + 1) = fnd L N (a + u) (sk + 1) := by
            have := congrArg List.tail hd2
            rw [List.tail_drop] at this
            exact this
          have HN2 : Hid (l[k]? = some t ∧ l.drop (k + 1) = fnd L N (a + u) (sk + 1) ∧ t.s = sk) := ⟨hget, hdrop, hts⟩
          have hu1 : ¬ (u : Int) < 1 := by omega
          have huN' : a + u ≤ N := by omega
          have HC := Lib.hid hC
          have HV := Lib.hid hV
          clear hR hd2 hget hdrop hnext hb2 htok hts hte htc hC hV
          gi_wp2_with (first | (refine wpIn_storeAt rfl 51 (.tmp 6) (.tmp 30) rfl w2.heap.size (tcells sk ca t.n cc ra t.m rc) (tcells 0 none 0 0 none 0 0) rfl rfl hA2 (info_trans sk ca t.n cc ra t.m rc) rfl (by kernel_rfl) ?_))
          intro w3 hA3 ho3
          have hb3 := hz2.trans (ho3.below hw2)
          have hl23 : Below w2.heap.size w2 w3 := ((Below.refl _ w2).alloc (Nat.le_refl _) _).trans (ho3.below (Nat.le_refl _))
          have hJ3 := HJT.out _ _ _ HST.out.1 hb3
          have hN3 := HST.out.2.2.below hb3
          have hB3 : B ≤ w3.heap.size := Nat.le_trans HST.out.2.1 hb3.size
          have hV3 : ∃ cs, (#[tval sk ca t.n cc ra t.m rc] : Array Value) = #[.agg cs] ∧ TrV B l k cs w3 :=
            ⟨_, rfl, t, ca, cc, ra, rc, HN2.out.1, by rw [HN2.out.2.2], RMine.low (RMine.below HC.out hl23) (by have := HST.out.2.1; omega), RMine.low (RMine.below HV.out hl23) (by have := HST.out.2.1; omega)⟩
          obtain ⟨fn, tmps, assign, body, hy, hR⟩ := HY.out k _ w3 hkl hJ3 ⟨hB3, hN3⟩ hV3
          clear hA2 hz2 ho3 hb3 hl23 hJ3 hN3 hV3 HC HV HST hB3
          gi_wp2_with (first | (refine wpIn_loadAt rfl 51 (.tmp 6) rfl w2.heap.size (tcells sk ca t.n cc ra t.m rc) _ rfl hA3 Tryd.underlying51 rfl (info_trans sk ca t.n cc ra t.m rc) ?_))
          refine hR.mono ?_
          clear hR hy hA3
          rintro e W3 (⟨rfl, hJ3, hB3, hN3⟩ | ⟨rfl, hJx3⟩)
          · gi_wp2
            go_roundw
            case rel => exact ⟨k + 1, a + u, sk + 1, by first | rfl | go_num, by first | rfl | go_num, by rw [HSK.out]; push_cast; omega, huN', by omega, HN2.out.2.1, by omega, hJ3, hB3, hN3⟩
            case measure => simp [intOf]; omega
          · gi_wp2
            refine bodyPost_ret (results_none rfl _ _ _) rfl ?_
            exact ⟨⟨_, rfl⟩, .inr ⟨k, hkl, hJx3⟩⟩
      · have HEND : Hid (k = l.length) := by
          show _ = _
          have h := HD.out
          rw [fnd_stop (fun h => hmx h.2), List.drop_eq_nil_iff] at h
          omega
        gi_wp2
        refine bodyPost_end (results_none rfl _ _ _) rfl ?_
        exact ⟨⟨_, rfl⟩, .inl (by rw [← HEND.out]; exact hJ)⟩
    · have HEND : Hid (k = l.length) := by
        show _ = _
        have h := HD.out
        rw [fnd_stop (fun h => hlt h.1), List.drop_eq_nil_iff] at h
        omega
      gi_wp2
      refine bodyPost_end (results_none rfl _ _ _) rfl ?_
      exact ⟨⟨_, rfl⟩, .inl (by rw [← HEND.out]; exact hJ)⟩
end Go.Proofs.YtnbmmhoofilmfaaDoor
