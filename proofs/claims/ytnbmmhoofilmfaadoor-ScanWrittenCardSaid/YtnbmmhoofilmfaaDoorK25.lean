/- Texts of this claim, merged by a program (a claim may have 60 files): Pk10. -/
import Derived.Test.YtnbmmhoofilmfaaDoorK24
/- pack.parse. Printed by gen_pkparse.py. -/
namespace Go.Proofs.YtnbmmhoofilmfaaDoor
open Go.RowKit
set_option linter.unusedVariables false

theorem results_prs {fn : Func} (h : fn.results = #[.cell 4 51, .tmp 5, .tmp 6]) (tmps : Array Value) (W : World) (g : Nat) {s : Int} {ca : Option Addr} {n cc : Nat} {ra : Option Addr} {m rc : Nat}
    (hp : tmps.getD 4 undef = .pointer (some ⟨g, 0, none⟩)) (hg : At W g 51 (tcells s ca n cc ra m rc)) : (results fn tmps).run Tryd.prog W = .ok (.tuple #[tval s ca n cc ra m rc, tmps.getD 5 undef, tmps.getD 6 undef]) W := by
  have hp' : tmps[4]?.getD undef = .pointer (some ⟨g, 0, none⟩) := by simpa using hp
  simp [results, h, hp', asAddr, run_loadVar_row W g 51 51 _ (0, 0) _ hg Tryd.underlying51 rfl (info_trans s ca n cc ra m rc)]
theorem addR_zero {w : World} {la : Option Addr} {N : Nat} {L : Nat → Nat → Int} {t : Tr} {s : Int} {M : Nat → Int} {ca : Option Addr} {cc : Nat} {ra : Option Addr} {rc : Nat} {W : World} (h : PrS w la N L t.n t.m s t.cb t.cd t.rv ca cc ra rc W) :
    PrS w la N L t.n (t.m + 0) s t.cb t.cd (addR t 0 M).rv ca cc ra rc W :=
  ⟨h.b, h.c, RMine.congr h.r fun i hi => by unfold inF addR; show _ = [Value.int .i64 (if i < t.m then _ else _)]; rw [if_pos (show i < t.m from hi)], h.l, h.bel⟩
theorem addC_zero {w : World} {la : Option Addr} {N : Nat} {L : Nat → Nat → Int} {t : Tr} {s : Int} {u : Nat} {tb : Nat → Int} {te : Nat → Bool} {ca : Option Addr} {cc : Nat} {ra : Option Addr} {rc : Nat} {W : World} (h : PrS w la N L t.n t.m s t.cb t.cd t.rv ca cc ra rc W) :
    PrS w la N L (t.n + 0) t.m s (addC t L u 0 tb te).cb (addC t L u 0 tb te).cd t.rv ca cc ra rc W :=
  ⟨h.b, RMine.congr h.c fun i hi => by
    have hi' : i < t.n := hi
    have e1 : (addC t L u 0 tb te).cb i = t.cb i := by unfold addC; show (if i < t.n then _ else _) = _; rw [if_pos hi']
    have e2 : (addC t L u 0 tb te).cd i = t.cd i := by unfold addC; show (if i < t.n then _ else _) = _; rw [if_pos hi']
    unfold cpF; rw [e1, e2], h.r, h.l, h.bel⟩
theorem unescJ_byt {z : Nat → Int} (hz : Byt z) : Byt (unescZ z) := byt_over hz (byt_byteOf _) _ _
theorem tgL_oneA (b : Int) (x : Bool) : (#[Value.int .u32 b, .bool x] : Array Value).all (·.oneCell') = true := by simp [Value.oneCell']
/-- what parse answers -/
def ParsePost (w : World) (s : Int) (R : Option (Tr × Nat)) (e : Ending) (w' : World) : Prop :=
  (R = none ∧ e = .returned (.tuple #[tval 0 none 0 0 none 0 0, .int .i64 0, .bool false])) ∨
  (∃ (t : Tr) (u : Nat) (ca : Option Addr) (cc : Nat) (ra : Option Addr) (rc : Nat), R = some (t, u) ∧ e = .returned (.tuple #[tval s ca t.n cc ra t.m rc, .int .i64 (u : Int), .bool true]) ∧
    RMine w' (w.heap.size + 1) 101 257 (.slice ca t.n cc) t.n (cpF t.cb t.cd) ∧ RMine w' (w.heap.size + 1) 3 1 (.slice ra t.m rc) t.m (inF t.rv))

set_option maxRecDepth 100000 in
set_option maxHeartbeats 16000000 in
theorem parse_any (la : Option Addr) (N lcap : Nat) (L : Nat → Nat → Int) (hL : ∀ i, Byt (L i)) (s : Int) (hs : 0 ≤ s ∧ s < 4294967296) (hN : N ≤ 255) (w : World) (hl : RRow w la 256 N (bkF L)) (hla : ∀ b off, la = some ⟨b, off, none⟩ → b < w.heap.size) :
    Calls Tryd.prog 136 #[.slice la N lcap, .int .u32 s] w fun e w' => ParsePost w s (prs L N s N 0 (tr0 s)) e w' ∧ Below w.heap.size w w' := by
  have hal := zero_block
  have halt := zero_trans
  have HLA : Hid (∀ b off, la = some ⟨b, off, none⟩ → b < w.heap.size) := hla
  have st0 : Hid (PrS w la N L 0 0 s (tr0 s).cb (tr0 s).cd (tr0 s).rv none 0 none 0 (w.alloc (.cells (tcells s none 0 0 none 0 0) 51))) :=
    ⟨At.new _ _ _, RMine.nil _ _ _ _ _, RMine.nil _ _ _ _ _, hl.alloc _, (Below.refl _ _).alloc (Nat.le_refl _) _⟩
  obtain ⟨R, hR⟩ : ∃ R, R = prs L N s N 0 (tr0 s) := ⟨_, rfl⟩
  rw [← hR]
  have HR0 : Hid (prs L N s (N - 0) 0 (tr0 s) = R) := hR.symm
  clear hl hla hR
  go_enter Tryd.func136, Tryd.ntmps136
  go_wp2_with fail
  go_loopw [5, 7, 8, 9, 10, 11, 13, 14, 15, 16, 17, 19] (fun u _ _ _ _ _ _ _ _ _ _ _ wr => ∃ (n : Nat) (t : Tr) (ca : Option Addr) (cc : Nat) (ra : Option Addr) (rc : Nat), u = .int .i64 (n : Int) ∧ n ≤ N ∧ t.n ≤ n ∧ t.m ≤ 60 * n ∧ Hid (prs L N s (N - n) n t = R) ∧ PrS w la N L t.n t.m s t.cb t.cd t.rv ca cc ra rc wr) (fun u _ _ _ _ _ _ _ _ _ _ _ _ => N - (intOf u).toNat)
  case atStart => exact ⟨0, tr0 s, none, 0, none, 0, rfl, Nat.zero_le _, Nat.le_refl _, Nat.le_refl _, HR0.out, st0.out⟩
  case round =>
    clear st0 HR0
    obtain ⟨n, t, ca, cc, ra, rc, rfl, hnN, htn, htm, HP, st⟩ := hrel
    by_cases hu : n < N
    rotate_left
    · have HN : Hid (R = none) := by show _ = _; rw [← HP.out, prs_end L N s n t hu]
      have hu' : (N : Int) ≤ (n : Int) := by omega
      clear HP
      have hb4 := st.b
      have hBL := Lib.hid st.bel
      clear st
      go_wp2_with (first | (refine wp_storeAt rfl 51 (.tmp 4) (.tmp 126) rfl w.heap.size (tcells 0 none 0 0 none 0 0) _ rfl rfl hb4 (info_trans 0 none 0 0 none 0 0) rfl (by kernel_rfl) ?_))
      intro wz hBz hoz
      have HLZ := Lib.hid (hBL.out.trans (hoz.below (Nat.le_refl _)))
      clear hoz hb4
      go_wp2_with fail
      exact bodyPost_ret (results_prs rfl _ _ _ rfl hBz) rfl ⟨.inl ⟨HN.out, rfl⟩, HLZ.out⟩
    have hu' : (n : Int) < (N : Int) := by omega
    have n0 : (0 : Int) ≤ (n : Int) := by omega
    have HSTEP := Lib.hid (prs_step L N s n t hu)
    obtain ⟨b, off, rfl, hsg⟩ : ∃ b off, la = some ⟨b, off, none⟩ ∧ RSeg wr b off 256 N (bkF L) := by
      rcases st.l with h | h
      · omega
      · exact h
    have hrg : wr.rangeAt b (off + n * 256) (bkF L n) := hsg.range n hu
    have hbw : b < wr.heap.size := by have := HLA.out b off rfl; have := st.bel.size; omega
    clear hsg
    go_wp2_with (first | (refine wp_loadMid rfl 32 (.tmp 29) rfl b (off + n * 256) (bkF L n) _ rfl hrg Tryd.underlying32 rfl (by rw [bkF_len]; exact info_block) ?_))
    refine (kind_any (L n) (hL n) wr).mono ?_
    rintro e w1 ⟨rfl, hb1⟩
    have hrg1 := rangeAt_below hrg hb1 hbw
    have hbw1 : b < w1.heap.size := Nat.lt_of_lt_of_le hbw hb1.size
    have st0bel : w.heap.size < w1.heap.size := Nat.lt_of_lt_of_le st.b.lt hb1.size
    have st := st.below hb1
    clear hrg hb1 hbw
    by_cases hsq : seqOf (L n) = s
    rotate_left
    · have HN : Hid (R = none) := by show _ = _; rw [← HP.out, HSTEP.out, if_neg hsq]
      have hq : (seqOf (L n) != s) = true := by rw [bne_iff_ne]; exact hsq
      clear HP HSTEP hsq hrg1
      have hb4 := st.b
      have hBL := Lib.hid st.bel
      clear st
      go_wp2_with (first | (refine wp_storeAt rfl 51 (.tmp 4) (.tmp 126) rfl w.heap.size (tcells 0 none 0 0 none 0 0) _ rfl rfl hb4 (info_trans 0 none 0 0 none 0 0) rfl (by kernel_rfl) ?_))
      intro wz hBz hoz
      have HLZ := Lib.hid (hBL.out.trans (hoz.below (Nat.le_refl _)))
      clear hoz hb4
      go_wp2_with fail
      exact bodyPost_ret (results_prs rfl _ _ _ rfl hBz) rfl ⟨.inl ⟨HN.out, rfl⟩, HLZ.out⟩
    have hq : (seqOf (L n) != s) = false := by rw [hsq]; simp
    have HSQ := Lib.hid hsq
    clear hsq
    by_cases hk1 : kindOf (L n) = 1
    · have q1 : (kindOf (L n) == 1) = true := by rw [beq_iff_eq]; exact hk1
      have e1 : IntKind.i64.wrap ((n : Int) + 1) = ((n + 1 : Nat) : Int) := by rw [IntWalk.i64_in _ (by omega)]; rfl
      go_wp2_with (first | (refine wp_loadMid rfl 32 (.tmp 44) rfl b (off + n * 256) (bkF L n) _ rfl hrg1 Tryd.underlying32 rfl (by rw [bkF_len]; exact info_block) ?_))
      refine (readDesc_any (L n) (hL n) w1).mono ?_
      rintro e w2 ⟨hb2, (⟨hrd, rfl⟩ | ⟨hrd, g0, cap0, rfl, how⟩)⟩
      · have HN : Hid (R = none) := by show _ = _; rw [← HP.out, HSTEP.out, if_pos HSQ.out, if_pos hk1, if_neg (by rw [hrd]; simp)]
        have st := st.below hb2
        clear HP HSTEP hrg1 hk1 hrd hb2
        have hb4 := st.b
        have hBL := Lib.hid st.bel
        clear st
        go_wp2_with (first | (refine wp_storeAt rfl 51 (.tmp 4) (.tmp 63) rfl w.heap.size (tcells 0 none 0 0 none 0 0) _ rfl rfl hb4 (info_trans 0 none 0 0 none 0 0) rfl (by kernel_rfl) ?_))
        intro wz hBz hoz
        have HLZ := Lib.hid (hBL.out.trans (hoz.below (Nat.le_refl _)))
        clear hoz hb4
        go_wp2_with fail
        exact bodyPost_ret (results_prs rfl _ _ _ rfl hBz) rfl ⟨.inl ⟨HN.out, rfl⟩, HLZ.out⟩
      have hk30 : rowsN (L n) ≤ 30 := by
        unfold descRd at hrd
        simp only [Bool.and_eq_true, decide_eq_true_eq] at hrd
        unfold rowsN; omega
      have htb : Wds (descT (L n)) := fun i => wd_wds (hL n) (4 + 2 * i)
      obtain ⟨k, hk⟩ : ∃ k, k = rowsN (L n) := ⟨_, rfl⟩
      obtain ⟨TB, hTB⟩ : ∃ TB, TB = descT (L n) := ⟨_, rfl⟩
      obtain ⟨TE, hTE⟩ : ∃ TE, TE = jdE (L n) := ⟨_, rfl⟩
      have HPX : Hid (R = if k ≤ N - (n + 1) then prs L N s (N - (n + 1 + k)) (n + 1 + k) (addC t L (n + 1) k TB TE) else none) := by
        show _ = _
        rw [← HP.out, HSTEP.out, if_pos HSQ.out, if_pos hk1, hk, hTB, hTE]
        by_cases hle : rowsN (L n) ≤ N - (n + 1)
        · rw [if_pos ⟨hrd, hle⟩, if_pos hle]
        · rw [if_neg (fun h => hle h.2), if_neg hle]
      rw [← hk, ← hTB, ← hTE] at how
      rw [← hk] at hk30
      rw [← hTB] at htb
      rw [← hk]
      have st := st.below hb2
      have hbw2 : b < w2.heap.size := Nat.lt_of_lt_of_le hbw1 hb2.size
      clear hrd hrg1 hb2 HP HSTEP hk hTB hTE hk1
      by_cases hle : k ≤ N - (n + 1)
      rotate_left
      · have HN : Hid (R = none) := by show _ = _; rw [HPX.out, if_neg hle]
        have e2 : IntKind.i64.wrap ((N : Int) - ((n + 1 : Nat) : Int)) = (N : Int) - ((n + 1 : Nat) : Int) := IntWalk.i64_in _ (by omega)
        have e2' : IntKind.i64.wrap ((N : Int) - ((n : Int) + 1)) = (N : Int) - ((n : Int) + 1) := IntWalk.i64_in _ (by omega)
        have q5 : (N : Int) - ((n + 1 : Nat) : Int) < (k : Int) := by omega
        have q6 : decide ((N : Int) - ((n : Int) + 1) < (k : Int)) = true := decide_eq_true (by omega)
        clear HPX hle
        have hb4 := st.b
        have hBL := Lib.hid st.bel
        clear st
        go_wp2_with (first | (refine wp_storeAt rfl 51 (.tmp 4) (.tmp 63) rfl w.heap.size (tcells 0 none 0 0 none 0 0) _ rfl rfl hb4 (info_trans 0 none 0 0 none 0 0) rfl (by kernel_rfl) ?_))
        intro wz hBz hoz
        have HLZ := Lib.hid (hBL.out.trans (hoz.below (Nat.le_refl _)))
        clear hoz hb4
        go_wp2_with fail
        exact bodyPost_ret (results_prs rfl _ _ _ rfl hBz) rfl ⟨.inl ⟨HN.out, rfl⟩, HLZ.out⟩
      have HPR : Hid (prs L N s (N - (n + 1 + k)) (n + 1 + k) (addC t L (n + 1) k TB TE) = R) := by show _ = _; rw [HPX.out, if_pos hle]
      have e2' : IntKind.i64.wrap ((N : Int) - ((n : Int) + 1)) = (N : Int) - ((n : Int) + 1) := IntWalk.i64_in _ (by omega)
      have q6 : decide ((N : Int) - ((n : Int) + 1) < (k : Int)) = false := decide_eq_false (by omega)
      have ST := Lib.hid st
      have HOW := Lib.hid how
      clear st how HPX
      go_wp2_with fail
      go_loopw [5, 13, 14, 66] (fun us _ _ c wr => ∃ (j : Nat) (ca : Option Addr) (cc : Nat), c = .int .i64 (j : Int) ∧ us = .int .i64 ((n + 1 + j : Nat) : Int) ∧ j ≤ k ∧ PrS w (some ⟨b, off, none⟩) N L (t.n + j) t.m s (addC t L (n + 1) j TB TE).cb (addC t L (n + 1) j TB TE).cd t.rv ca cc ra rc wr ∧ wr.ownsRow w1.heap.size 169 2 (.slice (some ⟨g0, 0, none⟩) k cap0) k (Tc TB TE k)) (fun _ _ _ c _ => k - (intOf c).toNat)
      case atStart => exact ⟨0, ca, cc, rfl, by first | rfl | go_num, Nat.zero_le _, addC_zero ST.out, HOW.out⟩
      case round =>
        clear ST HOW
        obtain ⟨j, ca, cc, rfl, rfl, hj, st, how⟩ := hrel
        by_cases hlt : j < k
        · have hlt' : (j : Int) < (k : Int) := by omega
          have j0 : (0 : Int) ≤ (j : Int) := by omega
          have u0 : (0 : Int) ≤ ((n + 1 + j : Nat) : Int) := by omega
          have u1 : ((n + 1 + j : Nat) : Int) < (N : Int) := by omega
          have u2' : n + 1 + j < N := by omega
          have hsegT : TagSeg wr g0 0 k TB TE := by
            obtain ⟨a, c, he, hr, _⟩ := own_tags how
            injection he with he1 _ _
            subst he1
            rcases hr with h | ⟨b', o', he, hs'⟩
            · omega
            · injection he with he; injection he with h1 h2; subst h1 h2; exact hs'
          have hrT : wr.rangeAt g0 (j * 2) [.int .u32 (TB j), .bool (TE j)] := fun i v hv => by
            obtain ⟨h1, h2⟩ := hsegT j hlt
            rw [Nat.zero_add] at h1 h2
            have hi2 : i < 2 := (List.getElem?_eq_some_iff.1 hv).1
            rw [← hv]
            obtain rfl | rfl : i = 0 ∨ i = 1 := by omega
            · exact h1
            · exact h2
          have hrB : wr.rangeAt b (off + (n + 1 + j) * 256) (bkF L (n + 1 + j)) := by
            rcases st.l with h | ⟨b', o', he, hs'⟩
            · omega
            · injection he with he; injection he with h1 h2; subst h1 h2; exact hs'.range (n + 1 + j) u2'
          have hbwr : b < wr.heap.size := World.block_lt_of_cell? wr _ (hrB 0 _ (Ks_get .u8 256 (L (n + 1 + j)) 0 (by decide)))
          have hb5 : Below wr.heap.size wr ((wr.alloc (.cells #[.int .u32 (TB j), .bool (TE j)] 169)).alloc (.cells (Ks .u8 256 fun _ => 0).toArray 32)) := ((Below.refl _ _).alloc (Nat.le_refl _) _).alloc (by simp) _
          have hrB1 := rangeAt_below hrB ((Below.refl wr.heap.size wr).alloc (Nat.le_refl _) (.cells #[.int .u32 (TB j), .bool (TE j)] 169)) hbwr
          have hXn := Blk.new (wr.alloc (.cells #[.int .u32 (TB j), .bool (TE j)] 169)) 32 256 (fun _ => 0)
          have hPTn := (At.new wr 169 #[.int .u32 (TB j), .bool (TE j)]).alloc (.cells (Ks .u8 256 fun _ => 0).toArray 32)
          have halT := zero_tag
          have HST := Lib.hid st
          have HHOW := Lib.hid how
          clear st how hsegT
          go_wp2_with (first | (refine wp_loadMid rfl 169 (.tmp 68) rfl g0 (j * 2) [.int .u32 (TB j), .bool (TE j)] _ rfl hrT Tryd.underlying169 rfl (info_tag (TB j) (TE j)) ?_) | (refine wp_loadMid rfl 32 (.tmp 72) rfl b (off + (n + 1 + j) * 256) (bkF L (n + 1 + j)) _ rfl hrB1 Tryd.underlying32 rfl (by rw [bkF_len]; exact info_block) ?_) | (refine wp_storeBlk rfl (.tmp 14) (.tmp 73) rfl (wr.heap.size + 1) (L (n + 1 + j)) _ rfl rfl (by simpa using hXn) ?_))
          intro wa hXa hoa
          have bela : Below wr.heap.size wr wa := hb5.trans (hoa.below (by omega))
          have hPT1 := hPTn.only hoa (by omega)
          have c1T : wa.cell? ⟨wr.heap.size, 1, none⟩ = some (.bool (TE j)) := hPT1.cell (i := 1) rfl
          obtain ⟨pt, hpt⟩ : ∃ pt, pt = wr.heap.size := ⟨_, rfl⟩
          obtain ⟨px, hpx⟩ : ∃ px, px = wr.heap.size + 1 := ⟨_, rfl⟩
          have hpw : w1.heap.size ≤ pt := by have := (World.ownsRow.lt HHOW.out _ rfl); omega
          have hpxl := hXa.lt
          have hptl := hPT1.lt
          have BELA := Lib.hid bela
          have HPT := Lib.hid hpt
          have HPX := Lib.hid hpx
          rw [← hpx] at hXa hpxl ⊢
          rw [← hpt] at hPT1 c1T hptl ⊢
          clear hXn hPTn hrT hrB hrB1 hb5 hoa bela halT hpt hpx hbwr
          cases hte : TE j with
          | false =>
            rw [hte] at c1T
            have st := HST.out.below BELA.out
            have how := World.ownsRow.kept HHOW.out (grown_below (row := none) BELA.out) (Classical.em _)
            have hX := hXa
            have hPT := hPT1
            obtain ⟨wx, hwx⟩ : ∃ wx, wx = wa := ⟨_, rfl⟩
            rw [← hwx] at st how hX hPT c1T ⊢
            clear hXa hPT1 HST HHOW BELA hwx hpxl hptl
            have hw : IntKind.i64.wrap (TB j) = TB j := IntWalk.i64_in _ (by have := htb j; omega)
            obtain ⟨i0, hi0, hz0, hs0, hb0⟩ := info_copyP
            have c1 : wx.cell? ⟨w.heap.size, 1, none⟩ = some (.slice ca (t.n + j) cc) := st.b.cell (i := 1) rfl
            have d0 : wx.cell? ⟨pt, 0, none⟩ = some (.int .u32 (TB j)) := hPT.cell (i := 0) rfl
            have st4 := st.below ((Below.refl wx.heap.size wx).alloc (Nat.le_refl _) (.cells (cpc (TB j) (L (n + 1 + j))).toArray 101))
            have hown := st4.c
            have hsz := st4.bel.size
            have hbl := st4.b.lt
            have hnews : ∀ (i : Nat) (u : Value), (cpc (TB j) (L (n + 1 + j)))[i]? = some u → (wx.alloc (.cells (cpc (TB j) (L (n + 1 + j))).toArray 101)).cell? ((⟨wx.heap.size, 0, none⟩ : Addr).add i) = some u := fun i u hu => by
              rw [addr_add, Nat.zero_add]
              exact cell_of_heap (heap_alloc_new wx _) (by simpa using hu)
            have how4 := World.ownsRow.kept how (grown_below (row := none) ((Below.refl wx.heap.size wx).alloc (Nat.le_refl _) (.cells (cpc (TB j) (L (n + 1 + j))).toArray 101))) (Classical.em _)
            have HST := Lib.hid st4
            have HTE := Lib.hid hte
            clear st how st4 hPT hte
            go_wp2_with (first | (refine wp_loadBlkG rfl (.tmp 14) rfl px (L (n + 1 + j)) rfl hX ?_) | (refine wpList_build2 rfl 101 0 1 (.tmp 82) (.tmp 83) rfl (.int .i64 (TB j)) (bval (L (n + 1 + j))) rfl rfl _ (build_copy (TB j) (L (n + 1 + j))) ?_) | (refine wpList_slice1 rfl 49 1 0 (.tmp 84) rfl (.agg (cpc (TB j) (L (n + 1 + j))).toArray) rfl _ _ (run_copy1 (TB j) (L (n + 1 + j)) _) ?_) | (refine wpList_append_own _ rfl (.tmp 79) (.tmp 85) 49 rfl (w.heap.size + 1) 101 i0 (.agg (cpc 0 fun _ => 0).toArray) 257 264 Tryd.underlying49 hi0 hz0 hs0 hb0 (by simp [Value.cells, Ks]) (by decide) (.slice ca (t.n + j) cc) (t.n + j) _ rfl hown ⟨wx.heap.size, 0, none⟩ 1 1 (cpc (TB j) (L (n + 1 + j))) rfl (by rw [cpc_len]) hnews (cpF_one (fun _ => TB j) (fun _ => L (n + 1 + j)) 0) (by unfold maxLen; omega) (by omega) (by omega) ?_))
            intro v' w5 ho5 hg5 _
            obtain ⟨ca5, cc5, rfl⟩ : ∃ a c, v' = .slice a (t.n + j + 1) c := by
              rcases ho5.2 with ⟨_, h0⟩ | ⟨g, cap, cur, rfl, _⟩
              · omega
              · exact ⟨_, _, rfl⟩
            have st6 := Lib.hid (HST.out.addc HLA.out hg5 (cb' := (addC t L (n + 1) (j + 1) TB TE).cb) (cd' := (addC t L (n + 1) (j + 1) TB TE).cd) ho5 (fun i hi => addC_low t L (n + 1) j TB TE hi) (by
              obtain ⟨a1, a2⟩ := addC_at t L (n + 1) j TB TE
              exact ⟨a1, by rw [a2, HTE.out]; rfl⟩))
            have hat := AtGrown HST.out.b hg5 (fun e => by have := (World.ownsRow.lt hown _ e).1; omega)
            have c5 : w5.cell? ⟨w.heap.size, 1, none⟩ = some (.slice ca (t.n + j) cc) := hat.cell (i := 1) rfl
            have f5 : w5.frozen? ⟨w.heap.size, 1, none⟩ = false := soft_of_heap hat 1
            have how5 := World.ownsRow.kept how4 hg5 (.inr (fun e => own_ne how4 hown (by decide) rfl (by rw [← e]; rfl)))
            have how6 := Lib.hid (own_only how5 (Only.setCell w5 ⟨w.heap.size, 1, none⟩ (.slice ca5 (t.n + j + 1) cc5)) (fun e => by have := (World.ownsRow.lt how5 _ e).1; change _ ≤ w.heap.size at this; omega))
            have e7 : IntKind.i64.wrap ((n : Int) + 1 + (j : Int) + 1) = (n : Int) + 1 + (j : Int) + 1 := IntWalk.i64_in _ (by omega)
            clear ho5 hg5 hat how5 how4 hown hnews HST c1 d0 hX HTE
            go_wp2_with fail
            go_roundw
            case rel => exact ⟨j + 1, ca5, cc5, by first | rfl | go_num, by first | rfl | go_num | (congr 1; omega), by omega, st6.out, how6.out⟩
            case measure => simp [intOf]; omega
          | true =>
            rw [hte] at c1T
            go_wp2_with (first | (refine wp_loadBlkG rfl (.tmp 14) rfl px (L (n + 1 + j)) rfl hXa ?_))
            refine (unescape_any (L (n + 1 + j)) (hL _) wa).mono ?_
            rintro e wb ⟨rfl, hbb⟩
            have hXb := hXa.below hbb hpxl
            have hPTb := hPT1.below hbb hptl
            clear hXa c1T
            go_wp2_with (first | (refine wp_storeBlk rfl (.tmp 14) (.tmp 77) rfl px (unescZ (L (n + 1 + j))) _ rfl rfl hXb ?_))
            intro wx hX hox
            have belx : Below wr.heap.size wr wx := (BELA.out.trans (hbb.mono BELA.out.size)).trans (hox.below (by have := HPX.out; omega))
            have st := HST.out.below belx
            have how := World.ownsRow.kept HHOW.out (grown_below (row := none) belx) (Classical.em _)
            have hPT := hPTb.only hox (by have := HPX.out; have := HPT.out; omega)
            clear hXb hPTb hPT1 HST HHOW BELA hbb hox belx hpxl hptl
            have hw : IntKind.i64.wrap (TB j) = TB j := IntWalk.i64_in _ (by have := htb j; omega)
            obtain ⟨i0, hi0, hz0, hs0, hb0⟩ := info_copyP
            have c1 : wx.cell? ⟨w.heap.size, 1, none⟩ = some (.slice ca (t.n + j) cc) := st.b.cell (i := 1) rfl
            have d0 : wx.cell? ⟨pt, 0, none⟩ = some (.int .u32 (TB j)) := hPT.cell (i := 0) rfl
            have st4 := st.below ((Below.refl wx.heap.size wx).alloc (Nat.le_refl _) (.cells (cpc (TB j) (unescZ (L (n + 1 + j)))).toArray 101))
            have hown := st4.c
            have hsz := st4.bel.size
            have hbl := st4.b.lt
            have hnews : ∀ (i : Nat) (u : Value), (cpc (TB j) (unescZ (L (n + 1 + j))))[i]? = some u → (wx.alloc (.cells (cpc (TB j) (unescZ (L (n + 1 + j)))).toArray 101)).cell? ((⟨wx.heap.size, 0, none⟩ : Addr).add i) = some u := fun i u hu => by
              rw [addr_add, Nat.zero_add]
              exact cell_of_heap (heap_alloc_new wx _) (by simpa using hu)
            have how4 := World.ownsRow.kept how (grown_below (row := none) ((Below.refl wx.heap.size wx).alloc (Nat.le_refl _) (.cells (cpc (TB j) (unescZ (L (n + 1 + j)))).toArray 101))) (Classical.em _)
            have HST := Lib.hid st4
            have HTE := Lib.hid hte
            clear st how st4 hPT hte
            go_wp2_with (first | (refine wp_loadBlkG rfl (.tmp 14) rfl px (unescZ (L (n + 1 + j))) rfl hX ?_) | (refine wpList_build2 rfl 101 0 1 (.tmp 82) (.tmp 83) rfl (.int .i64 (TB j)) (bval (unescZ (L (n + 1 + j)))) rfl rfl _ (build_copy (TB j) (unescZ (L (n + 1 + j)))) ?_) | (refine wpList_slice1 rfl 49 1 0 (.tmp 84) rfl (.agg (cpc (TB j) (unescZ (L (n + 1 + j)))).toArray) rfl _ _ (run_copy1 (TB j) (unescZ (L (n + 1 + j))) _) ?_) | (refine wpList_append_own _ rfl (.tmp 79) (.tmp 85) 49 rfl (w.heap.size + 1) 101 i0 (.agg (cpc 0 fun _ => 0).toArray) 257 264 Tryd.underlying49 hi0 hz0 hs0 hb0 (by simp [Value.cells, Ks]) (by decide) (.slice ca (t.n + j) cc) (t.n + j) _ rfl hown ⟨wx.heap.size, 0, none⟩ 1 1 (cpc (TB j) (unescZ (L (n + 1 + j)))) rfl (by rw [cpc_len]) hnews (cpF_one (fun _ => TB j) (fun _ => unescZ (L (n + 1 + j))) 0) (by unfold maxLen; omega) (by omega) (by omega) ?_))
            intro v' w5 ho5 hg5 _
            obtain ⟨ca5, cc5, rfl⟩ : ∃ a c, v' = .slice a (t.n + j + 1) c := by
              rcases ho5.2 with ⟨_, h0⟩ | ⟨g, cap, cur, rfl, _⟩
              · omega
              · exact ⟨_, _, rfl⟩
            have st6 := Lib.hid (HST.out.addc HLA.out hg5 (cb' := (addC t L (n + 1) (j + 1) TB TE).cb) (cd' := (addC t L (n + 1) (j + 1) TB TE).cd) ho5 (fun i hi => addC_low t L (n + 1) j TB TE hi) (by
              obtain ⟨a1, a2⟩ := addC_at t L (n + 1) j TB TE
              exact ⟨a1, by rw [a2, HTE.out]; rfl⟩))
            have hat := AtGrown HST.out.b hg5 (fun e => by have := (World.ownsRow.lt hown _ e).1; omega)
            have c5 : w5.cell? ⟨w.heap.size, 1, none⟩ = some (.slice ca (t.n + j) cc) := hat.cell (i := 1) rfl
            have f5 : w5.frozen? ⟨w.heap.size, 1, none⟩ = false := soft_of_heap hat 1
            have how5 := World.ownsRow.kept how4 hg5 (.inr (fun e => own_ne how4 hown (by decide) rfl (by rw [← e]; rfl)))
            have how6 := Lib.hid (own_only how5 (Only.setCell w5 ⟨w.heap.size, 1, none⟩ (.slice ca5 (t.n + j + 1) cc5)) (fun e => by have := (World.ownsRow.lt how5 _ e).1; change _ ≤ w.heap.size at this; omega))
            have e7 : IntKind.i64.wrap ((n : Int) + 1 + (j : Int) + 1) = (n : Int) + 1 + (j : Int) + 1 := IntWalk.i64_in _ (by omega)
            clear ho5 hg5 hat how5 how4 hown hnews HST c1 d0 hX HTE
            go_wp2_with fail
            go_roundw
            case rel => exact ⟨j + 1, ca5, cc5, by first | rfl | go_num, by first | rfl | go_num | (congr 1; omega), by omega, st6.out, how6.out⟩
            case measure => simp [intOf]; omega
        · obtain rfl : j = k := by omega
          have ST := Lib.hid st
          clear st how
          go_wp2_with fail
          go_roundw
          case rel => exact ⟨n + 1 + j, addC t L (n + 1) j TB TE, ca, cc, ra, rc, by first | rfl | go_num, by omega, (by show t.n + j ≤ n + 1 + j; omega), (by show t.m ≤ 60 * (n + 1 + j); omega), HPR.out, ST.out⟩
          case measure => simp [intOf]; omega
    have q1 : (kindOf (L n) == 1) = false := by rw [beq_eq_false_iff_ne]; exact hk1
    by_cases hk3 : kindOf (L n) = 3
    · have q3 : (kindOf (L n) == 3) = true := by rw [beq_iff_eq]; exact hk3
      go_wp2_with (first | (refine wp_loadMid rfl 32 (.tmp 96) rfl b (off + n * 256) (bkF L n) _ rfl hrg1 Tryd.underlying32 rfl (by rw [bkF_len]; exact info_block) ?_))
      refine (readRevoke_any (L n) (hL n) w1).mono ?_
      rintro e w2 ⟨hb2, (⟨hrd, rfl⟩ | ⟨hrd, g0, cap0, rfl, how⟩)⟩
      · have HN : Hid (R = none) := by show _ = _; rw [← HP.out, HSTEP.out, if_pos HSQ.out, if_neg hk1, if_pos hk3, if_neg (by rw [hrd]; decide)]
        have st := st.below hb2
        clear HP HSTEP hrg1 hk1 hk3 hrd hb2
        have hb4 := st.b
        have hBL := Lib.hid st.bel
        clear st
        go_wp2_with (first | (refine wp_storeAt rfl 51 (.tmp 4) (.tmp 104) rfl w.heap.size (tcells 0 none 0 0 none 0 0) _ rfl rfl hb4 (info_trans 0 none 0 0 none 0 0) rfl (by kernel_rfl) ?_))
        intro wz hBz hoz
        have HLZ := Lib.hid (hBL.out.trans (hoz.below (Nat.le_refl _)))
        clear hoz hb4
        go_wp2_with fail
        exact bodyPost_ret (results_prs rfl _ _ _ rfl hBz) rfl ⟨.inl ⟨HN.out, rfl⟩, HLZ.out⟩
      have HPR : Hid (prs L N s (N - (n + 1)) (n + 1) (addR t (rowsN (L n)) (revM (L n))) = R) := by show _ = _; rw [← HP.out, HSTEP.out, if_pos HSQ.out, if_neg hk1, if_pos hk3, if_pos hrd]
      have hk60 : rowsN (L n) ≤ 60 := by
        unfold revRd at hrd
        simp only [Bool.and_eq_true, decide_eq_true_eq] at hrd
        unfold rowsN; omega
      have hmb : Wds (revM (L n)) := fun i => wd_wds (hL n) (4 + i)
      obtain ⟨k, hk⟩ : ∃ k, k = rowsN (L n) := ⟨_, rfl⟩
      obtain ⟨M, hM⟩ : ∃ M, M = revM (L n) := ⟨_, rfl⟩
      rw [← hk, ← hM] at how HPR
      rw [← hk] at hk60
      rw [← hM] at hmb
      rw [← hk]
      have st := st.below hb2
      have ST := Lib.hid st
      have HOW := Lib.hid how
      clear st how hrd hrg1 hb2 HP HSTEP hk hM hk1 hk3
      go_wp2_with fail
      go_loopw [19, 107] (fun _ c wr => ∃ (j : Nat) (ra : Option Addr) (rc : Nat), c = .int .i64 (j : Int) ∧ j ≤ k ∧ PrS w (some ⟨b, off, none⟩) N L t.n (t.m + j) s t.cb t.cd (addR t j M).rv ca cc ra rc wr ∧ wr.ownsRow w1.heap.size 34 1 (.slice (some ⟨g0, 0, none⟩) k cap0) k (Ks .u32 k M)) (fun _ c _ => k - (intOf c).toNat)
      case atStart => exact ⟨0, ra, rc, rfl, Nat.zero_le _, addR_zero ST.out, HOW.out⟩
      case round =>
        clear ST HOW
        obtain ⟨j, ra, rc, rfl, hj, st, how⟩ := hrel
        by_cases hlt : j < k
        · have hlt' : (j : Int) < (k : Int) := by omega
          have j0 : (0 : Int) ≤ (j : Int) := by omega
          have c0 : wr.cell? ⟨g0, j, none⟩ = some (.int .u32 (M j)) := by
            rcases own_nums how with h | ⟨b', o', he, hs'⟩
            · omega
            · injection he with he; injection he with h1 h2; subst h1 h2; have := hs' j hlt; rwa [Nat.zero_add] at this
          have c2 : wr.cell? ⟨w.heap.size, 2, none⟩ = some (.slice ra (t.m + j) rc) := st.b.cell (i := 2) rfl
          have hw : IntKind.i64.wrap (M j) = M j := IntWalk.i64_in _ (by have := hmb j; omega)
          obtain ⟨i0, hi0, hz0, hs0, hb0⟩ := info_intP
          have st4 := st.below ((Below.refl wr.heap.size wr).alloc (Nat.le_refl _) (.cells #[.int .i64 (M j)] 3))
          have hown := st4.r
          have hsz := st4.bel.size
          have hbl := st4.b.lt
          have hnews : ∀ (i : Nat) (u : Value), [Value.int .i64 (M j)][i]? = some u → (wr.alloc (.cells #[.int .i64 (M j)] 3)).cell? ((⟨wr.heap.size, 0, none⟩ : Addr).add i) = some u := fun i u hu => by
            rw [addr_add, Nat.zero_add]
            exact cell_of_heap (heap_alloc_new wr _) (by simpa using hu)
          have how4 := World.ownsRow.kept how (grown_below (row := none) ((Below.refl wr.heap.size wr).alloc (Nat.le_refl _) (.cells #[.int .i64 (M j)] 3))) (Classical.em _)
          have HST := Lib.hid st4
          clear st how st4
          go_wp2_with (first | (refine wpList_slice1 rfl 45 1 0 (.tmp 114) rfl (.int .i64 (M j)) rfl _ _ (run_int1 (M j) _) ?_) | (refine wpList_append_own _ rfl (.tmp 112) (.tmp 115) 45 rfl (w.heap.size + 1) 3 i0 (.int .i64 0) 1 8 Tryd.underlying45 hi0 hz0 hs0 hb0 rfl (by decide) (.slice ra (t.m + j) rc) (t.m + j) _ rfl hown ⟨wr.heap.size, 0, none⟩ 1 1 [.int .i64 (M j)] rfl rfl hnews (fun u hu => by rw [List.mem_singleton.1 hu]; rfl) (by unfold maxLen; omega) (by omega) (by omega) ?_))
          intro v' w5 ho5 hg5 _
          obtain ⟨ra5, rc5, rfl⟩ : ∃ a c, v' = .slice a (t.m + j + 1) c := by
            rcases ho5.2 with ⟨_, h0⟩ | ⟨g, cap, cur, rfl, _⟩
            · omega
            · exact ⟨_, _, rfl⟩
          have st6 := Lib.hid (HST.out.addr HLA.out hg5 (rv' := (addR t (j + 1) M).rv) ho5 (fun i hi => addR_low t j M hi) (addR_at t j M))
          have hat := AtGrown HST.out.b hg5 (fun e => by have := (World.ownsRow.lt hown _ e).1; omega)
          have c5 : w5.cell? ⟨w.heap.size, 2, none⟩ = some (.slice ra (t.m + j) rc) := hat.cell (i := 2) rfl
          have f5 : w5.frozen? ⟨w.heap.size, 2, none⟩ = false := soft_of_heap hat 2
          have how5 := World.ownsRow.kept how4 hg5 (.inr (fun e => own_ne how4 hown (by decide) rfl (by rw [← e]; rfl)))
          have how6 := Lib.hid (own_only how5 (Only.setCell w5 ⟨w.heap.size, 2, none⟩ (.slice ra5 (t.m + j + 1) rc5)) (fun e => by have := (World.ownsRow.lt how5 _ e).1; change _ ≤ w.heap.size at this; omega))
          clear ho5 hg5 hat how5 how4 hown hnews HST c0 c2
          go_wp2_with fail
          go_roundw
          case rel => first | exact ⟨j + 1, ra5, rc5, by go_num, by omega, st6.out, how6.out⟩ | exact ⟨j + 1, ra5, rc5, rfl, by omega, st6.out, how6.out⟩
          case measure => simp [intOf]; omega
        · obtain rfl : j = k := by omega
          have ST := Lib.hid st
          clear st how
          go_wp2_with fail
          go_roundw
          case rel => first | exact ⟨n + 1, addR t j M, ca, cc, ra, rc, by go_num, by omega, (by show t.n ≤ n + 1; omega), (by show t.m + j ≤ 60 * (n + 1); omega), HPR.out, ST.out⟩ | exact ⟨n + 1, addR t j M, ca, cc, ra, rc, rfl, by omega, (by show t.n ≤ n + 1; omega), (by show t.m + j ≤ 60 * (n + 1); omega), HPR.out, ST.out⟩
          case measure => simp [intOf]; omega
    have q3 : (kindOf (L n) == 3) = false := by rw [beq_eq_false_iff_ne]; exact hk3
    by_cases hk2 : kindOf (L n) = 2
    · have q2 : (kindOf (L n) == 2) = true := by rw [beq_iff_eq]; exact hk2
      have HN : Hid (R = some (t, n + 1)) := by show _ = _; rw [← HP.out, HSTEP.out, if_pos HSQ.out, if_neg hk1, if_neg hk3, if_pos hk2]
      have hb4 := st.b
      have ST := Lib.hid st
      have e1 : IntKind.i64.wrap ((n : Int) + 1) = ((n + 1 : Nat) : Int) := by rw [IntWalk.i64_in _ (by omega)]; rfl
      clear st HP HSTEP hrg1 hk1 hk2 hk3
      go_wp2_with (first | (refine wp_loadAtG rfl 51 (.tmp 4) rfl _ _ _ rfl hb4 Tryd.underlying51 rfl (info_trans _ _ _ _ _ _ _) ?_) | (refine wp_storeAt rfl 51 (.tmp 4) (.tmp 123) rfl w.heap.size (tcells s ca t.n cc ra t.m rc) _ rfl rfl hb4 (info_trans _ _ _ _ _ _ _) rfl (by kernel_rfl) ?_))
      intro wz hBz hoz
      have HC := Lib.hid (own_only ST.out.c hoz (fun e => by have := (World.ownsRow.lt ST.out.c _ e).1; omega))
      have HRr := Lib.hid (own_only ST.out.r hoz (fun e => by have := (World.ownsRow.lt ST.out.r _ e).1; omega))
      have HLZ := Lib.hid (ST.out.bel.trans (hoz.below (Nat.le_refl _)))
      clear ST hoz hb4
      go_wp2_with fail
      exact bodyPost_ret (results_prs rfl _ _ _ rfl hBz) rfl ⟨.inr ⟨t, n + 1, ca, cc, ra, rc, HN.out, rfl, HC.out, HRr.out⟩, HLZ.out⟩
    have q2 : (kindOf (L n) == 2) = false := by rw [beq_eq_false_iff_ne]; exact hk2
    have HN : Hid (R = none) := by show _ = _; rw [← HP.out, HSTEP.out, if_pos HSQ.out, if_neg hk1, if_neg hk3, if_neg hk2]
    clear HP HSTEP hrg1 hk1 hk2 hk3
    have hb4 := st.b
    have hBL := Lib.hid st.bel
    clear st
    go_wp2_with (first | (refine wp_storeAt rfl 51 (.tmp 4) (.tmp 38) rfl w.heap.size (tcells 0 none 0 0 none 0 0) _ rfl rfl hb4 (info_trans 0 none 0 0 none 0 0) rfl (by kernel_rfl) ?_))
    intro wz hBz hoz
    have HLZ := Lib.hid (hBL.out.trans (hoz.below (Nat.le_refl _)))
    clear hoz hb4
    go_wp2_with fail
    exact bodyPost_ret (results_prs rfl _ _ _ rfl hBz) rfl ⟨.inl ⟨HN.out, rfl⟩, HLZ.out⟩
end Go.Proofs.YtnbmmhoofilmfaaDoor
