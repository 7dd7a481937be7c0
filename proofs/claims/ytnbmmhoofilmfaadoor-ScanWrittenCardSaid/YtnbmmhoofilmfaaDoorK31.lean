/- Texts of this claim, merged by a program (a claim may have 60 files): Sc0, Sc3, Geo3, Sc4. -/
import Derived.Test.YtnbmmhoofilmfaaDoorK27
import Derived.Test.YtnbmmhoofilmfaaDoorK30
import Derived.Test.YtnbmmhoofilmfaaDoorK08
import Derived.RegionIn
import Derived.Test.YtnbmmhoofilmfaaDoorK16
import Derived.Test.YtnbmmhoofilmfaaDoorK28
/- scan, plainly: the transactions with which blocks begin, one behind the other. -/
namespace Go.Proofs.YtnbmmhoofilmfaaDoor
open Go.RowKit
set_option linter.unusedVariables false

theorem unp_pos {L : Nat → Nat → Int} (hL : ∀ i, Byt (L i)) {N : Nat} {s : Int} (hs : 0 ≤ s ∧ s < 4294967296) {t : Tr} {u : Nat} (h : unp L N s = some (t, u)) : 0 < u ∧ u ≤ N ∧ u ≤ 255 ∧ t.Ok ∧ t.s = s ∧ packE t = 0 ∧ u = t.c + 1 := by
  unfold unp at h
  split at h
  · cases h
  · rename_i t' u' he
    split at h
    · rename_i hc
      injection h with h
      injection h with e1 e2
      subst e1 e2
      obtain ⟨h1, h2, h3⟩ := prs_pok hL _ 0 _ _ _ (POk.zero s) (Nat.zero_le _) he
      have h4 := hc.2
      unfold sameB at h4
      rw [Bool.and_eq_true, beq_iff_eq] at h4
      exact ⟨h3, by omega, by omega, h1.ok hs (by omega), h1.s, hc.1, h4.1.symm⟩
    · cases h
theorem unp_seq {L : Nat → Nat → Int} {N : Nat} {s : Int} (h : seqOf (L 0) ≠ s) : unp L N s = none := by
  have : prs L (min N 255) s (min N 255) 0 (tr0 s) = none := by
    by_cases h0 : 0 < min N 255
    · have := prs_step L (min N 255) s 0 (tr0 s) h0
      rw [show min N 255 - 0 = min N 255 by omega] at this
      rw [this, if_neg h]
    · rw [show min N 255 = 0 by omega]; rfl
  unfold unp; rw [this]
def fndF (L : Nat → Nat → Int) (N : Nat) : Nat → Nat → Int → List Tr
  | 0, _, _ => []
  | f + 1, k, s => if k < N ∧ s ≤ 2147483648 then (match unp (fun i => L (k + i)) (N - k) s with | none => [] | some (t, u) => t :: fndF L N f (k + u) (s + 1)) else []
/-- the transactions with which the blocks from k on begin, the first one with the number s -/
def fnd (L : Nat → Nat → Int) (N k : Nat) (s : Int) : List Tr := fndF L N (N - k) k s
section
variable {L : Nat → Nat → Int} {N : Nat}
theorem fndF_fuel (hL : ∀ i, Byt (L i)) : ∀ (f g k : Nat) (s : Int), 0 ≤ s → N - k ≤ f → N - k ≤ g → fndF L N f k s = fndF L N g k s
  | 0, 0, k, s, _, _, _ => rfl
  | 0, g + 1, k, s, _, h, _ => by rw [fndF, fndF, if_neg (fun h' => by omega)]
  | f + 1, 0, k, s, _, _, h => by rw [fndF, fndF, if_neg (fun h' => by omega)]
  | f + 1, g + 1, k, s, h0, h1, h2 => by
    rw [fndF, fndF]
    by_cases hc : k < N ∧ s ≤ 2147483648
    · rw [if_pos hc, if_pos hc]
      cases hu : unp (fun i => L (k + i)) (N - k) s with
      | none => rfl
      | some p =>
        obtain ⟨t, u⟩ := p
        have := unp_pos (fun i => hL (k + i)) ⟨h0, by omega⟩ hu
        show t :: _ = t :: _
        rw [fndF_fuel hL f g (k + u) (s + 1) (by omega) (by omega) (by omega)]
    · rw [if_neg hc, if_neg hc]
theorem fnd_stop {k : Nat} {s : Int} (h : ¬ (k < N ∧ s ≤ 2147483648)) : fnd L N k s = [] := by
  unfold fnd
  cases N - k with
  | zero => rfl
  | succ f => rw [fndF, if_neg h]
theorem fnd_none {k : Nat} {s : Int} (h : unp (fun i => L (k + i)) (N - k) s = none) : fnd L N k s = [] := by
  unfold fnd
  cases hf : N - k with
  | zero => rfl
  | succ f =>
    rw [fndF, h]
    split <;> rfl
theorem fnd_some (hL : ∀ i, Byt (L i)) {k : Nat} {s : Int} (h0 : 0 ≤ s) (hk : k < N) (hs : s ≤ 2147483648) {t : Tr} {u : Nat} (h : unp (fun i => L (k + i)) (N - k) s = some (t, u)) : fnd L N k s = t :: fnd L N (k + u) (s + 1) := by
  have hp := unp_pos (fun i => hL (k + i)) ⟨h0, by omega⟩ h
  unfold fnd
  obtain ⟨f, hf⟩ : ∃ f, N - k = f + 1 := ⟨N - k - 1, by omega⟩
  rw [hf, fndF, if_pos ⟨hk, hs⟩, h]
  show t :: _ = t :: _
  rw [fndF_fuel hL f (N - (k + u)) (k + u) (s + 1) (by omega) (by omega) (Nat.le_refl _)]
theorem fnd_bound (hL : ∀ i, Byt (L i)) : ∀ (d k : Nat) (s : Int), 0 ≤ s → d = N - k → (fnd L N k s).length ≤ d ∧ ∀ t ∈ fnd L N k s, t.Ok ∧ packE t = 0 ∧ s ≤ t.s ∧ t.s ≤ 2147483648
  | d, k, s, h0, hd => by
    by_cases hc : k < N ∧ s ≤ 2147483648
    · cases hu : unp (fun i => L (k + i)) (N - k) s with
      | none => rw [fnd_none hu]; exact ⟨Nat.zero_le _, fun t ht => by cases ht⟩
      | some p =>
        obtain ⟨t, u⟩ := p
        have hp := unp_pos (fun i => hL (k + i)) ⟨h0, by omega⟩ hu
        have ih := fnd_bound hL (N - (k + u)) (k + u) (s + 1) (by omega) rfl
        rw [fnd_some hL h0 hc.1 hc.2 hu]
        refine ⟨by rw [List.length_cons]; omega, fun x hx => ?_⟩
        rcases List.mem_cons.1 hx with rfl | hx
        · exact ⟨hp.2.2.2.1, hp.2.2.2.2.2.1, by rw [hp.2.2.2.2.1]; omega, by rw [hp.2.2.2.2.1]; omega⟩
        · have := ih.2 x hx
          exact ⟨this.1, this.2.1, by omega, this.2.2.2⟩
    · rw [fnd_stop hc]; exact ⟨Nat.zero_le _, fun t ht => by cases ht⟩
termination_by d => d
decreasing_by omega
/-- the k-th one bears the number s + k -/
theorem fnd_seq (hL : ∀ i, Byt (L i)) : ∀ (d k : Nat) (s : Int), 0 ≤ s → d = N - k → ∀ (i : Nat) (t : Tr), (fnd L N k s)[i]? = some t → t.s = s + i
  | d, k, s, h0, hd, i, t, ht => by
    by_cases hc : k < N ∧ s ≤ 2147483648
    · cases hu : unp (fun i => L (k + i)) (N - k) s with
      | none => rw [fnd_none hu] at ht; simp at ht
      | some p =>
        obtain ⟨t', u⟩ := p
        have hp := unp_pos (fun i => hL (k + i)) ⟨h0, by omega⟩ hu
        rw [fnd_some hL h0 hc.1 hc.2 hu] at ht
        cases i with
        | zero =>
          simp at ht
          subst ht
          rw [hp.2.2.2.2.1]; simp
        | succ i =>
          simp at ht
          have := fnd_seq hL (N - (k + u)) (k + u) (s + 1) (by omega) rfl i t ht
          rw [this]; push_cast; omega
    · rw [fnd_stop hc] at ht; simp at ht
termination_by d => d
decreasing_by omega
/-- blocks in which transactions stand one behind the other from k on, and behind them nothing of the next number -/
inductive Laid (L : Nat → Nat → Int) (N : Nat) : Nat → Int → List Tr → Prop
  | nil {k : Nat} {s : Int} (h : k < N → seqOf (L k) ≠ s) : Laid L N k s []
  | cons {k : Nat} {s : Int} {t : Tr} {l : List Tr} (ht : t.Ok) (hz : ∀ i, t.n ≤ i → t.cd i = fun _ => 0) (hE : packE t = 0) (hs : t.s = s) (hN : k + (t.c + 1) ≤ N) (hl : ∀ i, i ≤ t.c → L (k + i) = pkB t i) (h : Laid L N (k + (t.c + 1)) (s + 1) l) : Laid L N k s (t :: l)
theorem fnd_laid (hL : ∀ i, Byt (L i)) {k : Nat} {s : Int} {l : List Tr} (h : Laid L N k s l) : 0 ≤ s → s + l.length ≤ 2147483648 → fnd L N k s = l := by
  induction h with
  | nil h =>
    rename_i k s
    intro h0 h1
    by_cases hk : k < N
    · exact fnd_none (unp_seq (h hk))
    · exact fnd_stop (fun h' => hk h'.1)
  | cons ht hz hE hs hN hl h ih =>
    rename_i k s t l
    intro h0 h1
    rw [List.length_cons] at h1
    have hu := unp_pack (L := fun i => L (k + i)) (N := N - k) ht hz hE (by omega) hl
    rw [hs] at hu
    rw [fnd_some hL h0 (by omega) (by omega) hu, ih (by omega) (by omega)]
end
end Go.Proofs.YtnbmmhoofilmfaaDoor

/- scan.found: the iterator over transactions. -/
namespace Go.Proofs.YtnbmmhoofilmfaaDoor
open Go.RowKit
set_option linter.unusedVariables false

/-- what the iterator wants of memory -/
structure FnN (q bs bl : Nat) (L : Nat → Nat → Int) (N : Nat) (s : Int) (W : World) : Prop where
  s : At W bs 34 #[.int .u32 s]
  l : At W bl 24 #[.slice (some ⟨q, 0, none⟩) N N]
  a : RArr W q 32 256 N (bkF L)
  t : Tab W
theorem FnN.below {q bs bl : Nat} {L : Nat → Nat → Int} {N : Nat} {s : Int} {W W' : World} (h : FnN q bs bl L N s W) (hb : Below W.heap.size W W') : FnN q bs bl L N s W' :=
  ⟨h.s.below hb h.s.lt, h.l.below hb h.l.lt, h.a.below hb, h.t.below hb (Nat.le_refl _)⟩
/-- the k-th transaction of a list, as a value in memory that is new -/
def TrV (B : Nat) (l : List Tr) (k : Nat) (cs : Array Value) (W : World) : Prop :=
  ∃ t ca cc ra rc, l[k]? = some t ∧ cs = tcells t.s ca t.n cc ra t.m rc ∧ RMine W B 101 257 (.slice ca t.n cc) t.n (cpF t.cb t.cd) ∧ RMine W B 3 1 (.slice ra t.m rc) t.m (inF t.rv)
theorem grown_none {A C : World} (hb : Below A.heap.size A C) : A.grownBy C none := grown_below hb

set_option maxRecDepth 100000 in
theorem cutB_lhm (g off len cap lo hi : Nat) (l h m : Int) (hl : l = (lo : Int)) (hh : h = (hi : Int)) (hm : m = (hi : Int)) (h1 : lo < hi) (h2 : hi ≤ cap) (w : World) :
    (Instr.slice 24 (.slice (some ⟨g, off, none⟩) len cap) (some (.int .i64 l)) (some (.int .i64 h)) (some (.int .i64 m))).run Tryd.prog w = .ok (.slice (some ⟨g, off + lo * 256, none⟩) (hi - lo) (hi - lo)) w := by
  subst hl hh hm
  have hsz : (Go.sizeOf 32).run Tryd.prog w = .ok 256 w := by kernel_rfl
  rw [run_slice_lhm w 24 _ len cap (by kernel_rfl) .i64 .i64 .i64 (lo : Int) (hi : Int) (hi : Int) (by omega) (by omega) (by omega) (by omega), show Tryd.prog.elem 24 = 32 from by kernel_rfl, hsz]
  simp only [Result.andThen, sliced, Int.toNat_natCast]
  rw [if_neg (by omega), Option.map_some, addr_add]

set_option maxRecDepth 100000 in
set_option maxHeartbeats 4000000 in
theorem found_iter (f : Nat) (hf : 1 ≤ f) (B q bs bl : Nat) (L : Nat → Nat → Int) (hL : ∀ i, Byt (L i)) (N : Nat) (hN : N ≤ 255) (s : Int) (hs : 0 ≤ s ∧ s ≤ 2147483648) (hbs : bs < B) (hbl : bl < B) (hq : q < B) (l : List Tr) (hl : fnd L N 0 s = l) :
    IterV Fence.wide f Tryd.prog 100 #[.pointer (some ⟨bs, 0, none⟩), .pointer (some ⟨bl, 0, none⟩)] (fun k vs W => ∃ cs, vs = #[.agg cs] ∧ TrV B l k cs W) l.length (fun _ => False) (fun _ W => B ≤ W.heap.size ∧ FnN q bs bl L N s W) := by
  intro lp J Jx W hJt hJxt hY h0 hN0
  have HY := Lib.hid hY
  have HJT : Hid (∀ k A C, J k A → Below A.heap.size A C → J k C) := fun k A C h hb => hJt k A C h ⟨none, grown_below hb, fun r e => by cases e⟩
  have HFL := Lib.hid hl
  have HBL := Lib.hid hL
  have halt := zero_trans
  clear hY hJt hJxt hl hL
  have c0 : W.cell? ⟨bs, 0, none⟩ = some (.int .u32 s) := hN0.2.s.cell (i := 0) rfl
  refine callsIn_of_wp Tryd.func100 rfl trivial ?_ rfl
  simp only [Tryd.ntmps100, List.size_toArray, List.length_cons, List.length_nil, Nat.reduceAdd, Nat.reduceSub, Array.replicate_succ, Array.replicate_zero, List.push_toArray, List.append_toArray, List.nil_append, List.cons_append]
  gi_wp2
  gi_region
  have hN1 : B ≤ W.drew.heap.size ∧ FnN q bs bl L N s W.drew := ⟨hN0.1, hN0.2.below (Below.refl _ _).drew⟩
  have h1 : J 0 W.drew := HJT.out _ _ _ h0 (Below.refl _ _).drew
  clear c0 hN0 h0
  gi_wp2
  gi_loopw [4, 5] (fun u v wr => ∃ (k a : Nat) (sk : Int), u = .int .i64 (a : Int) ∧ v = .int .u32 sk ∧ sk = s + (k : Int) ∧ a ≤ N ∧ k ≤ l.length ∧ l.drop k = fnd L N a sk ∧ sk ≤ 2147483649 ∧ J k wr ∧ B ≤ wr.heap.size ∧ FnN q bs bl L N s wr) (fun u _ _ => N - (intOf u).toNat)
  case atStart => exact ⟨0, 0, s, rfl, rfl, by simp, Nat.zero_le _, Nat.zero_le _, by rw [HFL.out]; rfl, by omega, h1, hN1.1, hN1.2⟩
  case round =>
    clear h1 hN1
    obtain ⟨k, a, sk, rfl, rfl, hsk, ha, hk, hd, hs9, hJ, hB, hnd⟩ := hrel
    have HSK := Lib.hid hsk
    have HD := Lib.hid hd
    have hs0 : 0 ≤ sk := by omega
    have c1 : wr.cell? ⟨bl, 0, none⟩ = some (.slice (some ⟨q, 0, none⟩) N N) := hnd.l.cell (i := 0) rfl
    clear hsk hd
    by_cases hlt : a < N
    · have hlt' : (a : Int) < (N : Int) := by omega
      have a0 : (0 : Int) ≤ (a : Int) := by omega
      by_cases hmx : sk ≤ 2147483648
      · have hwr : IntKind.u32.wrap (sk + 1) = sk + 1 := IntWalk.u32_in _ (by omega)
        have hcut := fun W => cutB_lhm q 0 N N a N (a : Int) (N : Int) (N : Int) rfl rfl rfl hlt (Nat.le_refl _) W
        rw [Nat.zero_add] at hcut
        have hrow : RRow wr (some ⟨q, a * 256, none⟩) 256 (N - a) (bkF fun i => L (a + i)) := by
          refine .inr ⟨q, _, rfl, ?_⟩
          have := hnd.a.seg.sub a (N - a) (by omega)
          rw [Nat.zero_add] at this
          exact this
        have hcall := unpack_any (some ⟨q, a * 256, none⟩) (N - a) (N - a) (fun i => L (a + i)) (fun i => HBL.out _) sk ⟨hs0, by omega⟩ (Nat.le_refl _) (by omega) wr hnd.t hrow (fun b off e => by injection e with e; injection e with e _; subst e; omega)
        have HCALL := Lib.hid hcall
        have HST : Hid (J k wr ∧ B ≤ wr.heap.size ∧ FnN q bs bl L N s wr) := ⟨hJ, hB, hnd⟩
        clear hrow hcall hJ hnd
        gi_wp2
        refine ⟨trivial, ?_⟩
        refine (callsIn_wide.2 HCALL.out).mono ?_
        rintro e w2 ⟨hp, hb2⟩
        clear HCALL hcut
        have hA2 := At.new w2 51 (tcells 0 none 0 0 none 0 0)
        have hz2 : Below wr.heap.size wr (w2.alloc (.cells (tcells 0 none 0 0 none 0 0) 51)) := hb2.alloc hb2.size _
        have hw2 := hb2.size
        rcases hp with ⟨hR, rfl⟩ | ⟨t, u, ca, cc, ra, rc, hR, rfl, hC, hV⟩
        · have HEND : Hid (k = l.length) := by
            show _ = _
            have h := HD.out
            rw [fnd_none hR, List.drop_eq_nil_iff] at h
            omega
          clear hR hb2
          gi_wp2_with (first | (refine wpIn_storeAt rfl 51 (.tmp 6) (.tmp 30) rfl w2.heap.size (tcells 0 none 0 0 none 0 0) (tcells 0 none 0 0 none 0 0) rfl rfl hA2 (info_trans 0 none 0 0 none 0 0) rfl (by kernel_rfl) ?_))
          intro w3 hA3 ho3
          have hJ3 := Lib.hid (HJT.out _ _ _ HST.out.1 (hz2.trans (ho3.below hw2)))
          clear hA2 hz2 ho3
          gi_wp2
          refine bodyPost_ret (results_none rfl _ _ _) rfl ?_
          exact ⟨⟨_, rfl⟩, .inl (by rw [← HEND.out]; exact hJ3.out)⟩
        · obtain ⟨hu0, huN, hu255, htok, hts, hte, htc⟩ := unp_pos (fun i => HBL.out _) ⟨hs0, by omega⟩ hR
          have hnext := fnd_some HBL.out hs0 hlt hmx hR
          have hd2 := HD.out
          rw [hnext] at hd2
          have hkl : k < l.length := by
            rcases Nat.lt_or_ge k l.length with h | h
            · exact h
            · rw [List.drop_eq_nil_iff.2 h] at hd2; cases hd2
          have hget : l[k]? = some t := by
            have := congrArg (fun x => x[0]?) hd2
            simpa using this
          have hdrop : l.drop (k + 1) = fnd L N (a + u) (sk + 1) := by
            have := congrArg List.tail hd2
            rw [List.tail_drop] at this
            exact this
          have HN2 : Hid (l[k]? = some t ∧ l.drop (k + 1) = fnd L N (a + u) (sk + 1) ∧ t.s = sk) := ⟨hget, hdrop, hts⟩
          have hu1 : ¬ (u : Int) < 1 := by omega
          have huN' : a + u ≤ N := by omega
          have HC := Lib.hid hC
          have HV := Lib.hid hV
          clear hR hd2 hget hdrop hnext hb2 htok hts hte htc hC hV
          gi_wp2_with (first | (refine wpIn_storeAt rfl 51 (.tmp 6) (.tmp 30) rfl w2.heap.size (tcells sk ca t.n cc ra t.m rc) (tcells 0 none 0 0 none 0 0) rfl rfl hA2 (info_trans sk ca t.n cc ra t.m rc) rfl (by kernel_rfl) ?_))
          intro w3 hA3 ho3
          have hb3 := hz2.trans (ho3.below hw2)
          have hl23 : Below w2.heap.size w2 w3 := ((Below.refl _ w2).alloc (Nat.le_refl _) _).trans (ho3.below (Nat.le_refl _))
          have hJ3 := HJT.out _ _ _ HST.out.1 hb3
          have hN3 := HST.out.2.2.below hb3
          have hB3 : B ≤ w3.heap.size := Nat.le_trans HST.out.2.1 hb3.size
          have hV3 : ∃ cs, (#[tval sk ca t.n cc ra t.m rc] : Array Value) = #[.agg cs] ∧ TrV B l k cs w3 :=
            ⟨_, rfl, t, ca, cc, ra, rc, HN2.out.1, by rw [HN2.out.2.2], RMine.low (RMine.below HC.out hl23) (by have := HST.out.2.1; omega), RMine.low (RMine.below HV.out hl23) (by have := HST.out.2.1; omega)⟩
          obtain ⟨fn, tmps, assign, body, hy, hR⟩ := HY.out k _ w3 hkl hJ3 ⟨hB3, hN3⟩ hV3
          clear hA2 hz2 ho3 hb3 hl23 hJ3 hN3 hV3 HC HV HST hB3
          gi_wp2_with (first | (refine wpIn_loadAt rfl 51 (.tmp 6) rfl w2.heap.size (tcells sk ca t.n cc ra t.m rc) _ rfl hA3 Tryd.underlying51 rfl (info_trans sk ca t.n cc ra t.m rc) ?_))
          refine hR.mono ?_
          clear hR hy hA3
          rintro e W3 (⟨rfl, hJ3, hB3, hN3⟩ | ⟨rfl, hJx3⟩)
          · gi_wp2
            go_roundw
            case rel => exact ⟨k + 1, a + u, sk + 1, by first | rfl | go_num, by first | rfl | go_num, by rw [HSK.out]; push_cast; omega, huN', by omega, HN2.out.2.1, by omega, hJ3, hB3, hN3⟩
            case measure => simp [intOf]; omega
          · gi_wp2
            refine bodyPost_ret (results_none rfl _ _ _) rfl ?_
            exact ⟨⟨_, rfl⟩, .inr ⟨k, hkl, hJx3⟩⟩
      · have HEND : Hid (k = l.length) := by
          show _ = _
          have h := HD.out
          rw [fnd_stop (fun h => hmx h.2), List.drop_eq_nil_iff] at h
          omega
        gi_wp2
        refine bodyPost_end (results_none rfl _ _ _) rfl ?_
        exact ⟨⟨_, rfl⟩, .inl (by rw [← HEND.out]; exact hJ)⟩
    · have HEND : Hid (k = l.length) := by
        show _ = _
        have h := HD.out
        rw [fnd_stop (fun h => hlt h.1), List.drop_eq_nil_iff] at h
        omega
      gi_wp2
      refine bodyPost_end (results_none rfl _ _ _) rfl ?_
      exact ⟨⟨_, rfl⟩, .inl (by rw [← HEND.out]; exact hJ)⟩
end Go.Proofs.YtnbmmhoofilmfaaDoor

/- geo.Blocks, geo.Start. -/
namespace Go.Proofs.YtnbmmhoofilmfaaDoor
open Go.RowKit
set_option linter.unusedVariables false

set_option maxHeartbeats 2000000 in
theorem geoBlocks_any (G S I J : Int) (w : World) : Calls Tryd.prog 13 #[gval G S I J] w fun e w' => e = .returned (.int .i64 (nBl G S I J)) ∧ Below w.heap.size w w' := by
  have HA := Lib.hid (At.new w 23 (gcells G S I J))
  have HL : Hid (Below w.heap.size w (w.alloc (.cells (gcells G S I J) 23))) := (Below.refl _ _).alloc (Nat.le_refl _) _
  go_enter Tryd.func13, Tryd.ntmps13
  have hA := HA.out
  go_wp2_with (first | (refine wp_loadAtG rfl 23 _ rfl _ _ _ rfl hA Tryd.underlying23 rfl (by kernel_rfl) ?_))
  refine (geoMay_any G S I J _).mono ?_
  rintro e w1 ⟨rfl, hb1⟩
  have hA1 := hA.below hb1 hA.lt
  have hL1 : Below w.heap.size w w1 := HL.out.trans (hb1.mono HL.out.size)
  clear hA HA HL hb1
  cases hm : mayG G S I J with
  | false =>
    have HN : Hid (nBl G S I J = 0) := by show _ = _; unfold nBl; rw [hm]; rfl
    clear hm
    go_wp2_with fail
    go_ret
    exact ⟨by rw [HN.out]; rfl, hL1⟩
  | true =>
    have HN : Hid (nBl G S I J = 2 + J + G * S) := by show _ = _; unfold nBl; rw [hm]; rfl
    obtain ⟨h1, h2, h3, h4, h5, h6, h7, h8, h9, h10, h11⟩ := (mayG_iff G S I J).1 hm
    have hg0 : 0 ≤ G * S := Int.mul_nonneg (by omega) (by omega)
    have hw : IntKind.i64.wrap (G * S) = G * S := IntWalk.i64_in _ (by omega)
    have hw1 : IntKind.i64.wrap (2 + J) = 2 + J := IntWalk.i64_in _ (by omega)
    have hw2 : IntKind.i64.wrap (2 + J + G * S) = 2 + J + G * S := IntWalk.i64_in _ (by omega)
    have c0 : w1.cell? ⟨w.heap.size, 0, none⟩ = some (.int .i64 G) := hA1.cell (i := 0) rfl
    have c1 : w1.cell? ⟨w.heap.size, 1, none⟩ = some (.int .i64 S) := hA1.cell (i := 1) rfl
    have c3 : w1.cell? ⟨w.heap.size, 3, none⟩ = some (.int .i64 J) := hA1.cell (i := 3) rfl
    clear hm h11
    go_wp2_with fail
    go_ret
    exact ⟨by rw [HN.out]; rfl, hL1⟩
/-- is there such a group? -/
def isGr (G S I J k : Int) : Bool := mayG G S I J && (decide (0 ≤ k) && decide (k < G))
def stGr (G S I J k : Int) : Int := if isGr G S I J k then 2 + J + k * S else 0
set_option maxHeartbeats 2000000 in
theorem geoStart_any (G S I J k : Int) (w : World) : Calls Tryd.prog 39 #[gval G S I J, .int .i64 k] w fun e w' => e = .returned (.tuple #[.int .i64 (stGr G S I J k), .bool (isGr G S I J k)]) ∧ Below w.heap.size w w' := by
  have HA := Lib.hid (At.new w 23 (gcells G S I J))
  have HL : Hid (Below w.heap.size w (w.alloc (.cells (gcells G S I J) 23))) := (Below.refl _ _).alloc (Nat.le_refl _) _
  go_enter Tryd.func39, Tryd.ntmps39
  have hA := HA.out
  go_wp2_with (first | (refine wp_loadAtG rfl 23 _ rfl _ _ _ rfl hA Tryd.underlying23 rfl (by kernel_rfl) ?_))
  refine (geoMay_any G S I J _).mono ?_
  rintro e w1 ⟨rfl, hb1⟩
  have hA1 := hA.below hb1 hA.lt
  have hL1 : Below w.heap.size w w1 := HL.out.trans (hb1.mono HL.out.size)
  clear hA HA HL hb1
  have c0 : w1.cell? ⟨w.heap.size, 0, none⟩ = some (.int .i64 G) := hA1.cell (i := 0) rfl
  have c1 : w1.cell? ⟨w.heap.size, 1, none⟩ = some (.int .i64 S) := hA1.cell (i := 1) rfl
  have c3 : w1.cell? ⟨w.heap.size, 3, none⟩ = some (.int .i64 J) := hA1.cell (i := 3) rfl
  cases hm : mayG G S I J with
  | false =>
    have HN : Hid (isGr G S I J k = false) := by show _ = _; unfold isGr; rw [hm]; rfl
    clear hm
    go_wp2_with fail
    go_ret2
    exact ⟨by unfold stGr; rw [HN.out]; rfl, hL1⟩
  | true =>
    obtain ⟨h1, h2, h3, h4, h5, h6, h7, h8, h9, h10, h11⟩ := (mayG_iff G S I J).1 hm
    have HD : Hid (isGr G S I J k = (decide (0 ≤ k) && decide (k < G))) := by show _ = _; unfold isGr; rw [hm]; rfl
    clear hm h11
    by_cases k0 : k < 0
    · have HN : Hid (isGr G S I J k = false) := by show _ = _; rw [HD.out]; simp; omega
      have q0 : decide (k < 0) = true := decide_eq_true k0
      go_wp2_with fail
      go_ret2
      exact ⟨by unfold stGr; rw [HN.out]; rfl, hL1⟩
    have q0 : decide (k < 0) = false := decide_eq_false k0
    by_cases k1 : G ≤ k
    · have HN : Hid (isGr G S I J k = false) := by show _ = _; rw [HD.out]; simp; omega
      have q1 : decide (G ≤ k) = true := decide_eq_true k1
      go_wp2_with fail
      go_ret2
      exact ⟨by unfold stGr; rw [HN.out]; rfl, hL1⟩
    have q1 : decide (G ≤ k) = false := decide_eq_false k1
    have HN : Hid (isGr G S I J k = true) := by show _ = _; rw [HD.out]; simp; omega
    have hg0 : 0 ≤ k * S := Int.mul_nonneg (by omega) (by omega)
    have hg1 : k * S ≤ 4 * 512 := Int.mul_le_mul (by omega) h4 (by omega) (by omega)
    have hw : IntKind.i64.wrap (k * S) = k * S := IntWalk.i64_in _ (by omega)
    have hw1 : IntKind.i64.wrap (2 + J) = 2 + J := IntWalk.i64_in _ (by omega)
    have hw2 : IntKind.i64.wrap (2 + J + k * S) = 2 + J + k * S := IntWalk.i64_in _ (by omega)
    go_wp2_with fail
    go_ret2
    exact ⟨by unfold stGr; rw [HN.out]; rfl, hL1⟩
end Go.Proofs.YtnbmmhoofilmfaaDoor

/- scan.Find: what it tells, plainly; the iterator's beginning; memory. -/
namespace Go.Proofs.YtnbmmhoofilmfaaDoor
open Go.RowKit
set_option linter.unusedVariables false

theorem found_any (q N : Nat) (s : Int) (w : World) :
    Calls Tryd.prog 56 #[.slice (some ⟨q, 0, none⟩) N N, .int .u32 s] w fun e w' => e = .returned (.func (.func 100) #[] #[.pointer (some ⟨w.heap.size + 1, 0, none⟩), .pointer (some ⟨w.heap.size, 0, none⟩)]) ∧ (w.alloc (.cells #[.slice (some ⟨q, 0, none⟩) N N] 24)).alloc (.cells #[.int .u32 s] 34) = w' := by
  go_enter Tryd.func56, Tryd.ntmps56
  go_wp2
  go_ret
  exact ⟨rfl, rfl⟩
/-- the transactions that Find tells -/
def fdL (J : Int) (L : Nat → Nat → Int) : List Tr := if 0 < hdT (L 2) then fnd (ringL L J.toNat (hdT (L 2)).toNat) (J.toNat - 1) 0 (hdS (L 2)) else []
def outTr (G S I J : Int) (t : Tr) : Bool := outT G S I J t.n t.cb t.m t.rv
def fdE (G S I J : Int) (N : Nat) (L : Nat → Nat → Int) : Int :=
  if mayG G S I J = false then 50 else if ¬ (N : Int) = nBl G S I J then 2 else if headRd (L 2) = false ∨ J ≤ hdT (L 2) then 90 else if (fdL J L).all (outTr G S I J) = false then 90 else if 2147483648 < hdS (L 2) + (fdL J L).length + 1 then 90 else 0
/-- a row of transactions, each with its own rows -/
def trC (l : List Tr) (ca : Nat → Option Addr) (cc : Nat → Nat) (ra : Nat → Option Addr) (rc : Nat → Nat) (i : Nat) : List Value :=
  match l[i]? with
  | some t => [.int .u32 t.s, .slice (ca i) t.n (cc i), .slice (ra i) t.m (rc i)]
  | none => [.int .u32 0, .slice none 0 0, .slice none 0 0]
theorem trC_len (l : List Tr) (ca : Nat → Option Addr) (cc : Nat → Nat) (ra : Nat → Option Addr) (rc : Nat → Nat) (i : Nat) : (trC l ca cc ra rc i).length = 3 := by unfold trC; split <;> rfl
def TrM (W : World) (B : Nat) (v : Value) (l : List Tr) : Prop :=
  ∃ ca cc ra rc, RMine W B 51 3 v l.length (trC l ca cc ra rc) ∧
    ∀ i t, l[i]? = some t → RMine W B 101 257 (.slice (ca i) t.n (cc i)) t.n (cpF t.cb t.cd) ∧ RMine W B 3 1 (.slice (ra i) t.m (rc i)) t.m (inF t.rv)
theorem TrM.nil (W : World) (B : Nat) : TrM W B (.slice none 0 0) [] := ⟨fun _ => none, fun _ => 0, fun _ => none, fun _ => 0, RMine.nil _ _ _ _ _, fun i t h => by simp at h⟩
theorem TrM.kept {B : Nat} (v : Value) (l : List Tr) (base : Nat) : Kept base (fun W => TrM W B v l) := fun W W' row h hg hr => by
  obtain ⟨ca, cc, ra, rc, h1, h2⟩ := h
  exact ⟨ca, cc, ra, rc, Kept.own W W' row h1 hg hr, fun i t ht => ⟨Kept.own W W' row (h2 i t ht).1 hg hr, Kept.own W W' row (h2 i t ht).2 hg hr⟩⟩
theorem TrM.below {W W' : World} {B : Nat} {v : Value} {l : List Tr} (h : TrM W B v l) (hb : Below W.heap.size W W') : TrM W' B v l := TrM.kept v l 0 W W' none h (grown_below hb) (fun r e => by cases e)
/-- a transaction more -/
theorem TrM.snoc {W : World} {B : Nat} {v : Value} {l : List Tr} {t : Tr} (h : TrM W B v l) {ca : Option Addr} {cc : Nat} {ra : Option Addr} {rc : Nat}
    (hC : RMine W B 101 257 (.slice ca t.n cc) t.n (cpF t.cb t.cd)) (hV : RMine W B 3 1 (.slice ra t.m rc) t.m (inF t.rv)) : ∃ xs, W.ownsRow B 51 3 v l.length xs ∧
      ∀ W0 W' v', Below W.heap.size W W0 → W'.ownsRow B 51 3 v' (l.length + 1) (xs ++ (tcells t.s ca t.n cc ra t.m rc).toList) → W0.grownBy W' v.ownBlock → TrM W' B v' (l ++ [t]) := by
  obtain ⟨ka, kc, kr, kq, h1, h2⟩ := h
  refine ⟨_, h1, fun W0 W' v' hb ho hg => ?_⟩
  have h1 := RMine.below h1 hb
  have hC := RMine.below hC hb
  have hV := RMine.below hV hb
  have h2 : ∀ i t, l[i]? = some t → RMine W0 B 101 257 (.slice (ka i) t.n (kc i)) t.n (cpF t.cb t.cd) ∧ RMine W0 B 3 1 (.slice (kr i) t.m (kq i)) t.m (inF t.rv) := fun i t ht => ⟨RMine.below (h2 i t ht).1 hb, RMine.below (h2 i t ht).2 hb⟩
  have kpt : ∀ {e size x n a xs}, World.ownsRow W0 B e size (.slice a n x) n xs → e ≠ 51 → World.ownsRow W' B e size (.slice a n x) n xs := fun {e size x n a xs} h he => World.ownsRow.kept h hg (by
    cases h1' : (Value.slice a n x).ownBlock with
    | none => exact .inl rfl
    | some g => exact .inr (fun e2 => own_ne h h1 he h1' e2.symm))
  refine ⟨fun i => if i = l.length then ca else ka i, fun i => if i = l.length then cc else kc i, fun i => if i = l.length then ra else kr i, fun i => if i = l.length then rc else kq i, ?_, fun i t' ht => ?_⟩
  · have e : Cs (trC (l ++ [t]) (fun i => if i = l.length then ca else ka i) (fun i => if i = l.length then cc else kc i) (fun i => if i = l.length then ra else kr i) (fun i => if i = l.length then rc else kq i)) (l.length + 1) = Cs (trC l ka kc kr kq) l.length ++ (tcells t.s ca t.n cc ra t.m rc).toList := by
      rw [Cs_succ]
      congr 1
      · exact Cs_congr fun i hi => by
          unfold trC
          rw [List.getElem?_append_left hi]
          simp only [if_neg (show ¬ i = l.length by omega)]
      · unfold trC
        rw [List.getElem?_append_right (Nat.le_refl _), Nat.sub_self]
        simp
    show W'.ownsRow _ _ _ _ _ _
    rw [List.length_append, List.length_singleton, e]
    exact ho
  · by_cases hi : i < l.length
    · rw [List.getElem?_append_left hi] at ht
      simp only [if_neg (show ¬ i = l.length by omega)]
      exact ⟨kpt (h2 i t' ht).1 (by decide), kpt (h2 i t' ht).2 (by decide)⟩
    · rw [List.getElem?_append_right (by omega)] at ht
      have hi' : i - l.length = 0 := by
        rcases Nat.eq_zero_or_pos (i - l.length) with e | e
        · exact e
        · rw [List.getElem?_eq_none (by simp; omega)] at ht; cases ht
      rw [hi'] at ht
      simp at ht
      subst ht
      simp only [if_pos (show i = l.length by omega)]
      exact ⟨kpt hC (by decide), kpt hV (by decide)⟩
/-- what Find keeps -/
structure FdS (w : World) (G S I J : Int) (la : Option Addr) (N : Nat) (L : Nat → Nat → Int) (hs ht : Int) (av : Value) (nn E : Int) (W : World) : Prop where
  g : At W w.heap.size 23 (gcells G S I J)
  h : At W (w.heap.size + 1) 36 #[.int .u32 hs, .int .i64 ht]
  l : At W (w.heap.size + 1 + 1) 56 #[av]
  n : At W (w.heap.size + 1 + 1 + 1) 34 #[.int .u32 nn]
  e : At W (w.heap.size + 1 + 1 + 1 + 1) 27 #[.int .i64 E]
  r : RRow W la 256 N (bkF L)
  ta : Tab W
  bel : Below w.heap.size w W
section
variable {w : World} {G S I J : Int} {la : Option Addr} {N : Nat} {L : Nat → Nat → Int} {hs ht : Int} {av : Value} {nn E : Int} {W W' : World}
theorem FdS.below (h : FdS w G S I J la N L hs ht av nn E W) (hb : Below W.heap.size W W') : FdS w G S I J la N L hs ht av nn E W' :=
  ⟨h.g.below hb h.g.lt, h.h.below hb h.h.lt, h.l.below hb h.l.lt, h.n.below hb h.n.lt, h.e.below hb h.e.lt, h.r.below (by intro e; cases e) hb, h.ta.below hb (Nat.le_refl _), h.bel.trans (hb.mono h.bel.size)⟩
theorem FdS.kept (hTl : 0 < w.heap.size) (base : Nat) (hb : w.heap.size ≤ base) : Kept base (fun W => FdS w G S I J la N L hs ht av nn E W) := fun W W' row h hg hr =>
  ⟨Kept.at _ _ W W' row h.g hg hr, Kept.at _ _ W W' row h.h hg hr, Kept.at _ _ W W' row h.l hg hr, Kept.at _ _ W W' row h.n hg hr, Kept.at _ _ W W' row h.e hg hr, by
    rcases h.r with h0 | ⟨b, off, rfl, h0⟩
    · exact .inl h0
    · exact .inr ⟨b, off, rfl, fun i hi j v hj => Kept.cell base _ _ W W' row (h0 i hi j v hj) hg hr⟩, fun i hi => Kept.cell base _ _ W W' row (h.ta i hi) hg hr, Kept.below w hb (Nat.le_refl _) W W' row h.bel hg hr⟩
end
end Go.Proofs.YtnbmmhoofilmfaaDoor
