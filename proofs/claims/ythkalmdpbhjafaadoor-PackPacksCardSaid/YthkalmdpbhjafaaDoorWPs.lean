/- PackSeq. -/
import Derived.Test.YthkalmdpbhjafaaDoorPk15
namespace Go.Proofs.YthkalmdpbhjafaaDoor
open Go.RowKit
set_option linter.unusedVariables false

/-- the transaction that is told in short -/
def trT (s : Int) (n : Nat) (rb rf : Nat → Int) (rm : Nat → Bool) (m : Nat) (rv : Nat → Int) : Tr :=
  ⟨s, n, fun i => if i < n then rb i else 0, fun i => if i < n then rwD rf rm i else fun _ => 0, m, fun i => if i < m then rv i else 0⟩
theorem trT_ok {s : Int} {n : Nat} {rb rf : Nat → Int} {rm : Nat → Bool} {m : Nat} {rv : Nat → Int} (hs : 0 ≤ s ∧ s < 4294967296) (hb : ∀ i, -9223372036854775808 ≤ rb i ∧ rb i ≤ 9223372036854775807) (hf : ∀ i, 0 ≤ rf i ∧ rf i < 256)
    (hv : ∀ i, -9223372036854775808 ≤ rv i ∧ rv i ≤ 9223372036854775807) (hn : n ≤ 400) (hm : m ≤ 3000) : (trT s n rb rf rm m rv).Ok := by
  refine ⟨hs, fun i => ?_, fun i => ?_, fun i => ?_, by show (n : Int) ≤ _; omega, by show (m : Int) ≤ _; omega, fun i hi => ?_, fun i hi => ?_⟩
  · show _ ≤ (if i < n then rb i else 0) ∧ (if i < n then rb i else 0) ≤ _
    split
    · exact hb i
    · decide
  · show Byt (if i < n then _ else _)
    split
    · exact rowZ_byt (hf i) _
    · exact zero_bytJ
  · show _ ≤ (if i < m then rv i else 0) ∧ (if i < m then rv i else 0) ≤ _
    split
    · exact hv i
    · decide
  · have hi : n ≤ i := hi
    show (if i < n then rb i else 0) = 0; rw [if_neg (by omega)]
  · have hi : m ≤ i := hi
    show (if i < m then rv i else 0) = 0; rw [if_neg (by omega)]
theorem trT_z {s : Int} {n : Nat} {rb rf : Nat → Int} {rm : Nat → Bool} {m : Nat} {rv : Nat → Int} (i : Nat) (hi : n ≤ i) : (trT s n rb rf rm m rv).cd i = fun _ => 0 := by
  show (if i < n then _ else _) = _; rw [if_neg (by omega)]
theorem trT_c {s : Int} {n : Nat} {rb rf : Nat → Int} {rm : Nat → Bool} {m : Nat} {rv : Nat → Int} (i : Nat) (hi : i < n) : cpF rb (rwD rf rm) i = cpF (trT s n rb rf rm m rv).cb (trT s n rb rf rm m rv).cd i := by
  unfold cpF trT; simp only [if_pos hi]
theorem trT_v {s : Int} {n : Nat} {rb rf : Nat → Int} {rm : Nat → Bool} {m : Nat} {rv : Nat → Int} (i : Nat) (hi : i < m) : inF rv i = inF (trT s n rb rf rm m rv).rv i := by
  unfold inF trT; simp only [if_pos hi]
/-- a call's rows and revoked blocks, as they came in -/
structure In15 (n : Nat) (rb rf : Nat → Int) (m cap : Nat) (rv : Nat → Int) (c : Option Addr) : Prop where
  b : ∀ i, -9223372036854775808 ≤ rb i ∧ rb i ≤ 9223372036854775807
  f : ∀ i, 0 ≤ rf i ∧ rf i < 256
  v : ∀ i, -9223372036854775808 ≤ rv i ∧ rv i ≤ 9223372036854775807
  no : c = none → m = 0 ∧ cap = 0
/-- Trans, then Pack -/
theorem tpack {s : Int} (hs : 0 ≤ s ∧ s < 4294967296) {n m cap : Nat} {rb rf : Nat → Int} {rm : Nat → Bool} {rv : Nat → Int} {c : Option Addr} (hi : In15 n rb rf m cap rv c) (hn : n ≤ 400) (hm : m ≤ 3000) {w0 W : World} (hT : Tab W) (hw : w0.heap.size ≤ W.heap.size) {ca : Option Addr} {cc : Nat} {ra : Option Addr} {rc : Nat}
    (hC : RMine W (w0.heap.size + 1) 61 257 (.slice ca n cc) n (cpF rb (rwD rf rm))) (hR : RMine W (w0.heap.size + 1) 3 1 (.slice ra m rc) m (inF rv)) :
    Calls Tryd.prog 15 #[tval s ca n cc ra m rc] W fun e w' => PackPost W (trT s n rb rf rm m rv) e w' ∧ Below W.heap.size W w' := by
  have hC' := RMine.congr hC (g := cpF (trT s n rb rf rm m rv).cb (trT s n rb rf rm m rv).cd) fun i hi => trT_c i hi
  have hR' := RMine.congr hR (g := inF (trT s n rb rf rm m rv).rv) fun i hi => trT_v i hi
  exact pack_any (trT s n rb rf rm m rv) (trT_ok hs hi.b hi.f hi.v hn hm) ca cc ra rc W hT (RMine.row hC' (cpF_len _ _)) (RMine.row hR' (inF_len _)) (fun b off e => (World.ownsRow.lt hC b (by rw [e]; rfl)).2) (fun b off e => (World.ownsRow.lt hR b (by rw [e]; rfl)).2) (rcap hC) (rcap hR)

set_option maxRecDepth 100000 in
set_option maxHeartbeats 8000000 in
theorem packSeq_walk (s ask : Int) (hs : 0 ≤ s ∧ s < 4294967296) (ha : 0 ≤ ask ∧ ask < 4294967296) (la : Option Addr) (n lcap : Nat) (rb rf : Nat → Int) (rm : Nat → Bool) (c : Option Addr) (m cap : Nat) (rv : Nat → Int) (hi : In15 n rb rf m cap rv c) (w : World) (hT : Tab w)
    (hl : RRow w la 3 n (rwF rb rf rm)) (hr : RRow w c 1 m (inF rv)) (hla : ∀ b off, la = some ⟨b, off, none⟩ → 0 < n → b < w.heap.size) :
    Calls Tryd.prog 10 #[.int .u32 s, .int .u32 ask, .slice la n lcap, .slice c m cap] w fun e w' => e = .returned (.bool true) ∧ Below w.heap.size w w' := by
  have halt := zero_trans
  have hTl := hT.lt
  have HI := Lib.hid hi
  have HLA : Hid (∀ b off, la = some ⟨b, off, none⟩ → 0 < n → b < w.heap.size) := hla
  have HL := Lib.hid hl
  have HR := Lib.hid hr
  have HT := Lib.hid hT
  clear hl hr hla hi hT
  go_enter Tryd.func10, Tryd.ntmps10
  go_wp2_with fail
  refine (awake15 w HT.out).mono ?_
  rintro e w1 ⟨rfl, hb1⟩
  have hs1 := hb1.size
  go_wp2_with fail
  refine (great_any la c n m lcap cap w1).mono ?_
  rintro e w2 ⟨rfl, hw2⟩
  obtain rfl : w1 = w2 := hw2.symm
  clear hw2
  cases hg : greatB n m with
  | true =>
    clear hg
    go_wp2_with fail
    go_ret
    exact ⟨rfl, hb1⟩
  | false =>
    have hnm : n ≤ 400 ∧ m ≤ 3000 := by
      unfold greatB at hg
      rw [Bool.or_eq_false_iff, decide_eq_false_iff_not, decide_eq_false_iff_not] at hg
      omega
    obtain ⟨hn, hm⟩ := hnm
    have HL1 := Lib.hid (HL.out.below (by intro e; cases e) hb1)
    have HR1 := Lib.hid (HR.out.below (by intro e; cases e) hb1)
    have HT1 := Lib.hid (HT.out.below hb1 (Nat.le_refl _))
    have HB1 := Lib.hid hb1
    clear HL HR HT hg hb1
    go_wp2_with fail
    refine (trans15_any s hs la n lcap rb rf rm HI.out.f c m cap rv hn hm HI.out.no w1 HL1.out HR1.out (fun b off e h0 => by have := HLA.out b off e h0; omega)).mono ?_
    rintro e w3 ⟨ca, cc, ra, rc, rfl, hC, hR, hb3⟩
    have HT3 := Lib.hid (HT1.out.below hb3 (Nat.le_refl _))
    have HB3 := Lib.hid (HB1.out.trans (hb3.mono hs1))
    have hs3 := hb3.size
    have HPK := Lib.hid (tpack (w0 := w1) hs HI.out hn hm HT3.out hs3 hC hR)
    have hOk := trT_ok (n := n) (m := m) (rm := rm) hs HI.out.b HI.out.f HI.out.v hn hm
    have hZ := fun i hi => trT_z (s := s) (n := n) (rb := rb) (rf := rf) (rm := rm) (m := m) (rv := rv) i hi
    have hts : (trT s n rb rf rm m rv).s = s := rfl
    obtain ⟨t, ht⟩ : ∃ t, t = trT s n rb rf rm m rv := ⟨_, rfl⟩
    rw [← ht] at HPK hOk hZ hts
    have HOk := Lib.hid hOk
    have HZ : Hid (∀ i, t.n ≤ i → t.cd i = fun _ => 0) := fun i hi => hZ i (by rw [ht] at hi; exact hi)
    have HTS := Lib.hid hts
    clear ht hOk hZ hts hC hR hb3 HT1 HB1 HL1 HR1
    go_wp2_with fail
    refine HPK.out.mono ?_
    rintro e w4 ⟨hp, hb4⟩
    have HT4 := Lib.hid (HT3.out.below hb4 (Nat.le_refl _))
    have HB4 := Lib.hid (HB3.out.trans (hb4.mono (by omega)))
    have hs4 := hb4.size
    clear HT3 HB3 HPK hb4
    rcases hp with ⟨hE, rfl⟩ | ⟨hE, q, rfl, hq, hq4⟩
    · have qE : (packE t == 0) = false := by rw [beq_eq_false_iff_ne]; exact hE
      have qE' : (packE t != 0) = true := by rw [bne, qE]; rfl
      clear hE
      go_wp2_with fail
      go_ret
      exact ⟨rfl, HB4.out⟩
    · have HE := Lib.hid hE
      have HQ := Lib.hid hq4
      have hle := hq4.le
      have hq5 := hq4.lt
      have hmx : maxLen ≤ 9223372036854775807 := by decide
      clear hE hq4
      go_wp2_with fail
      refine (unpack_any (some ⟨q, 0, none⟩) (t.c + 1) (t.c + 1) (pkB t) (pkB_byt t HOk.out) ask ha (Nat.le_refl _) (by omega) w4 HT4.out (.inr ⟨q, 0, rfl, HQ.out.seg⟩) (fun b off e => by injection e with e; injection e with e1 e2; omega)).mono ?_
      rintro e w5 ⟨hp, hb5⟩
      have HB5 := Lib.hid (HB4.out.trans (hb5.mono (by omega)))
      have hs5 := hb5.size
      have hB6 := At.new w5 28 (tcells 0 none 0 0 none 0 0)
      have HB6 := Lib.hid (HB5.out.alloc (by omega) (.cells (tcells 0 none 0 0 none 0 0) 28))
      by_cases has : ask = s
      · subst has
        have hu : unp (pkB t) (t.c + 1) ask = some (t, t.c + 1) := by
          have := unp_pack (L := pkB t) (N := t.c + 1) HOk.out HZ.out HE.out (Nat.le_refl _) (fun _ _ => rfl)
          rwa [HTS.out] at this
        rcases hp with ⟨hn, _⟩ | ⟨t', u, ca', cc', ra', rc', h, rfl, _, _⟩
        · rw [hu] at hn; cases hn
        have q1 : (ask == ask) = true := beq_self_eq_true _
        clear h hu hb5 HQ HOk HZ HTS HE HT4 HB4 HB5
        go_wp2_with (first | (refine wp_storeAt rfl 28 (.tmp 11) (.tmp 33) rfl w5.heap.size (tcells ask ca' t'.n cc' ra' t'.m rc') _ rfl rfl hB6 (info_trans 0 none 0 0 none 0 0) rfl (by kernel_rfl) ?_))
        intro w6 hB7 ho7
        have HB7 := Lib.hid (HB6.out.trans (ho7.below (by omega)))
        clear hB6 hB7 ho7 HB6
        go_wp2_with fail
        go_ret
        exact ⟨rfl, HB7.out⟩
      · have hu : unp (pkB t) (t.c + 1) ask = none := unp_other (L := pkB t) HOk.out HE.out rfl (by rw [HTS.out]; exact has)
        rcases hp with ⟨_, rfl⟩ | ⟨t', u, ca', cc', ra', rc', h, _⟩
        rotate_left
        · rw [hu] at h; cases h
        have q1 : (ask == s) = false := by rw [beq_eq_false_iff_ne]; exact has
        clear hu hb5 HQ HOk HZ HTS HE HT4 HB4 HB5 has
        go_wp2_with (first | (refine wp_storeAt rfl 28 (.tmp 11) (.tmp 33) rfl w5.heap.size (tcells 0 none 0 0 none 0 0) _ rfl rfl hB6 (info_trans 0 none 0 0 none 0 0) rfl (by kernel_rfl) ?_))
        intro w6 hB7 ho7
        have HB7 := Lib.hid (HB6.out.trans (ho7.below (by omega)))
        clear hB6 hB7 ho7 HB6
        go_wp2_with fail
        go_ret
        exact ⟨rfl, HB7.out⟩
end Go.Proofs.YthkalmdpbhjafaaDoor
