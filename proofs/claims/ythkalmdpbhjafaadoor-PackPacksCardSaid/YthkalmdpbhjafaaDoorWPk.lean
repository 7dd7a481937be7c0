/- PackPacks. -/
import Derived.Test.YthkalmdpbhjafaaDoorPk24
import Derived.Test.YthkalmdpbhjafaaDoorMg2
import Derived.Test.YthkalmdpbhjafaaDoorWPs
namespace Go.Proofs.YthkalmdpbhjafaaDoor
open Go.RowKit
set_option linter.unusedVariables false

/-- how many blocks there are -/
def pkLn (t : Tr) : Nat := if packE t = 0 then t.c + 1 else 0
theorem pkLn_le {t : Tr} : pkLn t ≤ 255 := by
  unfold pkLn
  by_cases h : packE t = 0
  · rw [if_pos h]
    obtain ⟨h1, h2⟩ := packE_zero h
    have := size_c h1
    omega
  · rw [if_neg h]; omega
theorem rcapk {w : World} {base : Nat} {e : TypeId} {m : Nat} {a : Option Addr} {n cap : Nat} {f : Nat → List Value} (h : RMine w base e m (.slice a n cap) n f) : a = none → n = 0 ∧ cap = 0 := by
  rcases h.2 with ⟨hv, h0⟩ | ⟨g, cp, cur, hv, _, _, _, hc, _⟩
  · injection hv with e1 e2 e3; exact fun _ => ⟨by omega, by omega⟩
  · injection hv with e1 e2 e3
    exact fun h => by rw [h] at e1; cases e1
theorem rpk_one {w : World} {t : Tr} {e : Ending} {w' : World} (h : RPackPost w t e w') {base : Nat} (hb : base ≤ w.heap.size + 1) : ∃ wa wc, e = .returned (.tuple #[.slice wa (pkLn t) wc, .int .i64 (packE t)]) ∧ RMine w' base 40 256 (.slice wa (pkLn t) wc) (pkLn t) (bkF (pkB t)) := by
  unfold pkLn
  rcases h with ⟨h0, rfl⟩ | ⟨h0, q, cap, rfl, hl⟩
  · rw [if_neg h0]; exact ⟨_, _, rfl, RMine.nil _ _ _ _ _⟩
  · rw [if_pos h0, h0]; exact ⟨_, _, rfl, RMine.low hl hb⟩
theorem pk_one {w : World} {t : Tr} {e : Ending} {w' : World} (h : PackPost w t e w') : ∃ wa wc, e = .returned (.tuple #[.slice wa (pkLn t) wc, .int .i64 (packE t)]) ∧ RMine w' w.heap.size 40 256 (.slice wa (pkLn t) wc) (pkLn t) (bkF (pkB t)) := by
  unfold pkLn
  rcases h with ⟨h0, rfl⟩ | ⟨h0, q, rfl, hq, hl⟩
  · rw [if_neg h0]; exact ⟨_, _, rfl, RMine.nil _ _ _ _ _⟩
  · rw [if_pos h0, h0]
    refine ⟨_, _, rfl, hl.1, ?_⟩
    rcases hl.2 with ⟨hv, h0⟩ | ⟨g, cp, cur, hv, hb, hrest⟩
    · cases hv
    · refine .inr ⟨g, cp, cur, hv, ?_, hrest⟩
      injection hv with e1
      injection e1 with e1
      injection e1 with e1
      omega
theorem rtpack {T : Tr} (hok : T.Ok) {s : Int} {n m : Nat} (hs : T.s = s) (hn : T.n = n) (hm : T.m = m) {base : Nat} {W : World} {ca : Option Addr} {cc : Nat} {ra : Option Addr} {rc : Nat} (hC : RMine W base 61 257 (.slice ca n cc) n (cpF T.cb T.cd)) (hR : RMine W base 3 1 (.slice ra m rc) m (inF T.rv)) :
    Calls Tryd.prog 14 #[tval s ca n cc ra m rc] W fun e w' => RPackPost W T e w' ∧ Below W.heap.size W w' := by
  subst hs hn hm
  exact rPack_any T hok ca cc ra rc W (RMine.row hC (cpF_len _ _)) (RMine.row hR (inF_len _)) (fun b off e => (World.ownsRow.lt hC b (by rw [e]; rfl)).2) (fun b off e => (World.ownsRow.lt hR b (by rw [e]; rfl)).2)
theorem ltpack {T : Tr} (hok : T.Ok) {s : Int} {n m : Nat} (hs : T.s = s) (hn : T.n = n) (hm : T.m = m) {base : Nat} {W : World} (hT : Tab W) {ca : Option Addr} {cc : Nat} {ra : Option Addr} {rc : Nat} (hC : RMine W base 61 257 (.slice ca n cc) n (cpF T.cb T.cd)) (hR : RMine W base 3 1 (.slice ra m rc) m (inF T.rv)) :
    Calls Tryd.prog 15 #[tval s ca n cc ra m rc] W fun e w' => PackPost W T e w' ∧ Below W.heap.size W w' := by
  subst hs hn hm
  exact pack_any T hok ca cc ra rc W hT (RMine.row hC (cpF_len _ _)) (RMine.row hR (inF_len _)) (fun b off e => (World.ownsRow.lt hC b (by rw [e]; rfl)).2) (fun b off e => (World.ownsRow.lt hR b (by rw [e]; rfl)).2) (rcap hC) (rcap hR)
theorem sameB_self (L : Nat → Nat → Int) (n : Nat) : sameB L L n n = true := by
  unfold sameB; rw [beq_self_eq_true, Bool.true_and]; exact (eqBs_iff _ _ _).2 fun i _ j _ => rfl
/-- what stands while it is packed again and again -/
structure PpS (w : World) (s : Int) (n m : Nat) (T : Tr) (p p' : Nat) (ca : Option Addr) (cc : Nat) (ra : Option Addr) (rc : Nat) (ca' : Option Addr) (cc' : Nat) (ra' : Option Addr) (rc' : Nat) (W : World) : Prop where
  t : At W p 28 (tcells s ca n cc ra m rc)
  u : At W p' 28 (tcells s ca' n cc' ra' m rc')
  c : RMine W w.heap.size 61 257 (.slice ca n cc) n (cpF T.cb T.cd)
  v : RMine W w.heap.size 3 1 (.slice ra m rc) m (inF T.rv)
  c' : RMine W w.heap.size 61 257 (.slice ca' n cc') n (cpF T.cb T.cd)
  v' : RMine W w.heap.size 3 1 (.slice ra' m rc') m (inF T.rv)
  ta : Tab W
  bel : Below w.heap.size w W
theorem PpS.below {w : World} {s : Int} {n m : Nat} {T : Tr} {p p' : Nat} {ca : Option Addr} {cc : Nat} {ra : Option Addr} {rc : Nat} {ca' : Option Addr} {cc' : Nat} {ra' : Option Addr} {rc' : Nat} {W W' : World} (h : PpS w s n m T p p' ca cc ra rc ca' cc' ra' rc' W) (hb : Below W.heap.size W W') : PpS w s n m T p p' ca cc ra rc ca' cc' ra' rc' W' :=
  ⟨h.t.below hb h.t.lt, h.u.below hb h.u.lt, RMine.below h.c hb, RMine.below h.v hb, RMine.below h.c' hb, RMine.below h.v' hb, h.ta.below hb (Nat.le_refl _), h.bel.trans (hb.mono h.bel.size)⟩

set_option maxRecDepth 100000 in
set_option maxHeartbeats 8000000 in
theorem packPacks_walk (s : Int) (hs : 0 ≤ s ∧ s < 4294967296) (la : Option Addr) (n lcap : Nat) (rb rf : Nat → Int) (rm : Nat → Bool) (c : Option Addr) (m cap : Nat) (rv : Nat → Int) (hi : In15 n rb rf m cap rv c) (w : World) (hT : Tab w)
    (hl : RRow w la 3 n (rwF rb rf rm)) (hr : RRow w c 1 m (inF rv)) (hla : ∀ b off, la = some ⟨b, off, none⟩ → 0 < n → b < w.heap.size) :
    Calls Tryd.prog 3 #[.int .u32 s, .slice la n lcap, .slice c m cap] w fun e w' => e = .returned (.bool true) ∧ Below w.heap.size w w' := by
  have halt := zero_trans
  have hTl := hT.lt
  have HI := Lib.hid hi
  have HLA : Hid (∀ b off, la = some ⟨b, off, none⟩ → 0 < n → b < w.heap.size) := hla
  have HL1 := Lib.hid hl
  have HR1 := Lib.hid hr
  have HT1 := Lib.hid hT
  clear hl hr hla hi hT
  go_enter Tryd.func3, Tryd.ntmps3
  go_wp2_with fail
  refine (great_any la c n m lcap cap w).mono ?_
  rintro e w2 ⟨rfl, hw2⟩
  obtain rfl : w = w2 := hw2.symm
  clear hw2
  cases hg : greatB n m with
  | true =>
    clear hg
    go_wp2_with fail
    go_ret
    exact ⟨rfl, Below.refl _ _⟩
  | false =>
    have hnm : n ≤ 400 ∧ m ≤ 3000 := by
      unfold greatB at hg
      rw [Bool.or_eq_false_iff, decide_eq_false_iff_not, decide_eq_false_iff_not] at hg
      omega
    obtain ⟨hn, hm⟩ := hnm
    clear hg
    go_wp2_with fail
    refine (trans15_any s hs la n lcap rb rf rm HI.out.f c m cap rv hn hm HI.out.no w HL1.out HR1.out (fun b off e h0 => by have := HLA.out b off e h0; omega)).mono ?_
    rintro e w3 ⟨ca, cc, ra, rc, rfl, hC, hR, hb3⟩
    have hOk := trT_ok (n := n) (m := m) (rm := rm) hs HI.out.b HI.out.f HI.out.v hn hm
    have hC' := RMine.congr hC (g := cpF (trT s n rb rf rm m rv).cb (trT s n rb rf rm m rv).cd) fun i hi => trT_c i hi
    have hR' := RMine.congr hR (g := inF (trT s n rb rf rm m rv).rv) fun i hi => trT_v i hi
    obtain ⟨T, hTd⟩ : ∃ T, T = trT s n rb rf rm m rv := ⟨_, rfl⟩
    have qs : Hid (T.s = s) := by rw [hTd]; exact rfl
    have qn : Hid (T.n = n) := by rw [hTd]; exact rfl
    have qm : Hid (T.m = m) := by rw [hTd]; exact rfl
    rw [← hTd] at hOk hC' hR'
    have HOK := Lib.hid hOk
    have HT3 := Lib.hid (HT1.out.below hb3 (Nat.le_refl _))
    have HW3 := Lib.hid hb3
    have hs3 := hb3.size
    have HC3 := Lib.hid (RMine.low hC' (Nat.le_succ _))
    have HR3 := Lib.hid (RMine.low hR' (Nat.le_succ _))
    have hP3 := At.new w3 28 (tcells 0 none 0 0 none 0 0)
    have hL3 : Below w3.heap.size w3 (w3.alloc (.cells (tcells 0 none 0 0 none 0 0) 28)) := (Below.refl _ _).alloc (Nat.le_refl _) _
    clear hC hR hC' hR' hb3 HT1 HL1 HR1 hOk hTd HI HLA
    go_wp2_with (first | (refine wp_storeAt rfl 28 (.tmp 7) (.tmp 21) rfl w3.heap.size (tcells s ca n cc ra m rc) _ rfl rfl hP3 (info_trans 0 none 0 0 none 0 0) rfl (by kernel_rfl) ?_))
    intro w4 hP4 ho4
    have hL4 := hL3.trans (ho4.below (Nat.le_refl _))
    have HC4 := Lib.hid (RMine.below HC3.out hL4)
    have HR4 := Lib.hid (RMine.below HR3.out hL4)
    have HT4 := Lib.hid (HT3.out.below hL4 (Nat.le_refl _))
    have HW4 := Lib.hid (HW3.out.trans (hL4.mono hs3))
    have hs4 := hL4.size
    have hlt4 := hP4.lt
    clear hP3 hL3 ho4 hL4 HC3 HR3 HT3 HW3
    go_wp2_with (first | (refine wp_loadAtG rfl 28 (.tmp 7) rfl _ _ _ rfl hP4 Tryd.underlying28 rfl (info_trans _ _ _ _ _ _ _) ?_))
    refine (twin_any s ca n cc ra m rc T.cb T.cd T.rv hn hm (rcapk HC4.out) (rcapk HR4.out) w4 (RMine.row HC4.out (cpF_len _ _)) (RMine.row HR4.out (inF_len _)) (fun b off e => (World.ownsRow.lt HC4.out b (by rw [e]; rfl)).2) (fun b off e => (World.ownsRow.lt HR4.out b (by rw [e]; rfl)).2)).mono ?_
    rintro e w5 ⟨ca', cc', ra', rc', rfl, hC5, hR5, hb5⟩
    have HC5 := Lib.hid (RMine.below HC4.out hb5)
    have HR5 := Lib.hid (RMine.below HR4.out hb5)
    have HT5 := Lib.hid (HT4.out.below hb5 (Nat.le_refl _))
    have HW5 := Lib.hid (HW4.out.trans (hb5.mono HW4.out.size))
    have hs5 := hb5.size
    have hP5 := hP4.below hb5 hlt4
    have hlt5 := hP5.lt
    have HD5 := Lib.hid (RMine.low hC5 (base' := w.heap.size) (by omega))
    have HE5 := Lib.hid (RMine.low hR5 (base' := w.heap.size) (by omega))
    have hQ5 := At.new w5 28 (tcells 0 none 0 0 none 0 0)
    have hL5 : Below w5.heap.size w5 (w5.alloc (.cells (tcells 0 none 0 0 none 0 0) 28)) := (Below.refl _ _).alloc (Nat.le_refl _) _
    clear hC5 hR5 hb5 HC4 HR4 HT4 HW4 hP4
    go_wp2_with (first | (refine wp_storeAt rfl 28 (.tmp 8) (.tmp 23) rfl w5.heap.size (tcells s ca' n cc' ra' m rc') _ rfl rfl hQ5 (info_trans 0 none 0 0 none 0 0) rfl (by kernel_rfl) ?_))
    intro w6 hQ6 ho6
    have hL6 := hL5.trans (ho6.below (Nat.le_refl _))
    have ST6 : Hid (PpS w s n m T w3.heap.size w5.heap.size ca cc ra rc ca' cc' ra' rc' w6) := ⟨hP5.below hL6 hlt5, hQ6, RMine.below HC5.out hL6, RMine.below HR5.out hL6, RMine.below HD5.out hL6, RMine.below HE5.out hL6, HT5.out.below hL6 (Nat.le_refl _), HW5.out.trans (hL6.mono HW5.out.size)⟩
    have hP6 := ST6.out.t
    have hs6 := hL6.size
    clear hL5 hL6 hQ6 hQ5 ho6 HC5 HR5 HD5 HE5 HT5 HW5 hP5
    go_wp2_with (first | (refine wp_loadAtG rfl 28 (.tmp 7) rfl _ _ _ rfl hP6 Tryd.underlying28 rfl (info_trans _ _ _ _ _ _ _) ?_))
    refine (rtpack HOK.out qs.out qn.out qm.out ST6.out.c ST6.out.v).mono ?_
    rintro e w7 ⟨hp7, hb7⟩
    obtain ⟨wa, wc, rfl, hl7⟩ := rpk_one hp7 (base := w.heap.size) (by have := ST6.out.bel.size; omega)
    have ST7 := Lib.hid (ST6.out.below hb7)
    have HLW := Lib.hid hl7
    have hN255 := pkLn_le (t := T)
    obtain ⟨N, hN⟩ : ∃ N, N = pkLn T := ⟨_, rfl⟩
    obtain ⟨E, hE⟩ : ∃ E, E = packE T := ⟨_, rfl⟩
    rw [← hN] at HLW hN255
    have HN := Lib.hid hN
    have HEE := Lib.hid hE
    rw [← hN, ← hE]
    have qE : (E != E) = false := by simp
    clear hp7 hb7 hl7 ST6 hP6 hN hE
    go_wp2_with fail
    go_loopw [11, 12, 13, 14] (fun u _ _ _ wr => ∃ k : Nat, u = .int .i64 (k : Int) ∧ k ≤ 2 ∧ PpS w s n m T w3.heap.size w5.heap.size ca cc ra rc ca' cc' ra' rc' wr ∧ RMine wr w.heap.size 40 256 (.slice wa N wc) N (bkF (pkB T))) (fun u _ _ _ _ => 2 - (intOf u).toNat)
    case atStart => exact ⟨0, rfl, Nat.zero_le _, ST7.out, HLW.out⟩
    case round =>
      clear ST7 HLW
      obtain ⟨k, rfl, hk, st, hlw⟩ := hrel
      have ST := Lib.hid st
      have HLW := Lib.hid hlw
      clear st hlw
      by_cases hk2 : k < 2
      · have hk2' : (k : Int) < 2 := by omega
        have hU := ST.out.u
        go_wp2_with (first | (refine wp_loadAtG rfl 28 (.tmp 8) rfl _ _ _ rfl hU Tryd.underlying28 rfl (info_trans _ _ _ _ _ _ _) ?_))
        refine (ltpack HOK.out qs.out qn.out qm.out ST.out.ta ST.out.c' ST.out.v').mono ?_
        rintro e w8 ⟨hp8, hb8⟩
        obtain ⟨l8, c8, rfl, hl8⟩ := pk_one hp8
        rw [← HN.out] at hl8
        rw [← HN.out, ← HEE.out]
        have ST8 := Lib.hid (ST.out.below hb8)
        have HLW8 := Lib.hid (RMine.below HLW.out hb8)
        have HB8 := Lib.hid hb8
        have HL8 := Lib.hid hl8
        clear hp8 hb8 hl8 hU
        go_wp2_with fail
        refine (sameBlocks_any l8 wa N N c8 wc (pkB T) (pkB T) (by omega) (by omega) w8 (RMine.row HL8.out (bkF_len _)) (RMine.row HLW8.out (bkF_len _))).mono ?_
        rintro e w9 ⟨rfl, d, hd⟩
        rw [sameB_self]
        have ST9 : Hid (PpS w s n m T w3.heap.size w5.heap.size ca cc ra rc ca' cc' ra' rc' w9) := by rw [hd]; have h := ST8.out; exact ⟨h.t, h.u, h.c, h.v, h.c', h.v', h.ta, ⟨h.bel.os, h.bel.tape, h.bel.output, h.bel.size, h.bel.block⟩⟩
        have HLW9 : Hid (RMine w9 w.heap.size 40 256 (.slice wa N wc) N (bkF (pkB T))) := by rw [hd]; exact HLW8.out
        have HL9 : Hid (RMine w9 wr.heap.size 40 256 (.slice l8 N c8) N (bkF (pkB T))) := by rw [hd]; exact HL8.out
        have HB9 : Hid (Below wr.heap.size wr w9) := by rw [hd]; have h := HB8.out; exact ⟨h.os, h.tape, h.output, h.size, h.block⟩
        clear hd ST8 HLW8 HL8 HB8
        have hT9 := ST9.out.t
        have hU9 := ST9.out.u
        go_wp2_with (first | (refine wp_loadAtG rfl 28 (.tmp 7) rfl _ _ _ rfl hT9 Tryd.underlying28 rfl (info_trans _ _ _ _ _ _ _) ?_) | (refine wp_loadAtG rfl 28 (.tmp 8) rfl _ _ _ rfl hU9 Tryd.underlying28 rfl (info_trans _ _ _ _ _ _ _) ?_))
        refine (same15_any s n m T.cb T.cd T.rv ca' cc' ra' rc' ca cc ra rc (by omega) (by omega) w9 (RMine.row ST9.out.c' (cpF_len _ _)) (RMine.row ST9.out.c (cpF_len _ _)) (RMine.row ST9.out.v' (inF_len _)) (RMine.row ST9.out.v (inF_len _))).mono ?_
        rintro e wa10 ⟨rfl, hba⟩
        have HL10 := Lib.hid (RMine.below HL9.out hba)
        have HB10 := Lib.hid (HB9.out.trans (hba.mono HB9.out.size))
        clear hba hT9 hU9 ST9 HLW9 HL9 HB9
        go_wp2_with fail
        go_loopw [14] (fun u wq => ∃ (i : Nat) (L : Nat → Nat → Int), u = .int .i64 (i : Int) ∧ i ≤ N ∧ RMine wq wr.heap.size 40 256 (.slice l8 N c8) N (bkF L) ∧ Below wr.heap.size wr wq) (fun u _ => N - (intOf u).toNat)
        case atStart => exact ⟨0, pkB T, rfl, Nat.zero_le _, HL10.out, HB10.out⟩
        case round =>
          clear HL10 HB10
          obtain ⟨i, L, rfl, hi, hlq, hbq⟩ := hrel
          by_cases hlt : i < N
          · have hi' : (i : Int) < (N : Int) := by omega
            have i0 : (0 : Int) ≤ (i : Int) := by omega
            obtain ⟨g, cp, hv, hg1, hg2, hg3, hg4⟩ := hlq.form' (by omega)
            injection hv with hv1 hv2 hv3
            subst hv1 hv3
            have c9 : wr.cell? ⟨g, i * 256, none⟩ = some (.int .u8 (L i 0)) := by
              have := RMine.seg hlq (bkF_len _) i hlt 0 _ (Ks_get .u8 256 (L i) 0 (by omega))
              rwa [Nat.zero_add, Nat.add_zero] at this
            have f9 : wr.frozen? ⟨g, i * 256, none⟩ = false := World.ownsRow.frozenAt hlq (i * 256)
            have ho := Only.setCell wr ⟨g, i * 256, none⟩ (.int .u8 99)
            have HLQ := Lib.hid (RMine.turn hlq hlt (i := 0) (by omega) 99)
            have HBQ := Lib.hid (hbq.trans (ho.below hg1))
            rw [Nat.add_zero] at HLQ
            clear hlq hbq ho
            go_wp2_with fail
            go_roundw
            case rel => first | exact ⟨i + 1, _, by first | rfl | go_num, by omega, HLQ.out, HBQ.out⟩ | ((repeat apply Exists.intro); exact ⟨⟨i + 1, _, by first | rfl | go_num, by omega, HLQ.out, HBQ.out⟩, rfl⟩)
            case measure => simp [intOf]; omega
          · obtain rfl : i = N := by omega
            have STQ := Lib.hid (ST.out.below hbq)
            have HLQ := Lib.hid (RMine.below HLW.out hbq)
            clear hlq hbq ST HLW
            go_wp2_with fail
            go_roundw
            case rel => first | exact ⟨k + 1, by first | rfl | go_num, by omega, STQ.out, HLQ.out⟩ | ((repeat apply Exists.intro); exact ⟨⟨k + 1, by first | rfl | go_num, by omega, STQ.out, HLQ.out⟩, rfl⟩)
            case measure => simp [intOf]; omega
      · obtain rfl : k = 2 := by omega
        go_wp2_with fail
        go_ret
        exact ⟨rfl, ST.out.bel⟩
end Go.Proofs.YthkalmdpbhjafaaDoor
