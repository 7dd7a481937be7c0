/- Texts of this claim, merged by a program (a claim may have 60 files): Sl1, Sd0, Sd2, B15, Sd3. -/
import Derived.Test.YtnbmmhoofilmfaaDoorK34
import Derived.Test.YtnbmmhoofilmfaaDoorK01
import Derived.Test.YtnbmmhoofilmfaaDoorK27
import Derived.Test.YtnbmmhoofilmfaaDoorK22
import Derived.Test.YtnbmmhoofilmfaaDoorK16
/- quernlaw18.lay: blocks are laid into a ring. -/
namespace Go.Proofs.YtnbmmhoofilmfaaDoor
open Go.RowKit
set_option linter.unusedVariables false

/-- the image's blocks behind n blocks laid from place a on -/
def layI (I B : Nat → Nat → Int) (j a : Nat) : Nat → Nat → Nat → Int
  | 0 => I
  | n + 1 => fun b => if b = 3 + (a + n - 1) % (j - 1) then B n else layI I B j a n b
structure LyS (w : World) (q N : Nat) (G S I J : Int) (la : Option Addr) (n : Nat) (B f : Nat → Nat → Int) (W : World) : Prop where
  g : At W w.heap.size 23 (gcells G S I J)
  a : RArr W q 32 256 N (bkF f)
  l : RRow W la 256 n (bkF B)
  gr : w.grownBy W (some q)

theorem grown_onlyS {w W W' : World} {q : Nat} (h : w.grownBy W (some q)) (ho : Only q W W') : w.grownBy W' (some q) :=
  ⟨ho.os.trans h.os, ho.tape.trans h.tape, ho.output.trans h.output, by rw [ho.size]; exact h.size, fun k hk hne => (ho.block k (fun e => hne (by rw [e]))).trans (h.block k hk hne)⟩

set_option maxRecDepth 100000 in
set_option maxHeartbeats 4000000 in
theorem lay18_any (q N : Nat) (f : Nat → Nat → Int) (G S I : Int) (j a : Nat) (la : Option Addr) (n cap : Nat) (B : Nat → Nat → Int) (hj : 2 ≤ j) (hj9 : j ≤ 256) (hN : 2 + j ≤ N) (hN9 : N ≤ 2048) (ha : 1 ≤ a) (ha9 : a ≤ 100000) (hn : n ≤ 2048) (w : World)
    (hA : RArr w q 32 256 N (bkF f)) (hl : RRow w la 256 n (bkF B)) (hla : ∀ b off, la = some ⟨b, off, none⟩ → 0 < n → b ≠ q) :
    Calls Tryd.prog 16 #[.slice (some ⟨q, 0, none⟩) N N, gval G S I (j : Int), .int .i64 (a : Int), .slice la n cap] w fun e w' => e = .returned (.int .i64 ((a + n : Nat) : Int)) ∧ RArr w' q 32 256 N (bkF (layI f B j a n)) ∧ w.grownBy w' (some q) := by
  have hqw := hA.lt
  have hlb := rrow_old hl (bkF_len _) (by omega)
  have st0 : Hid (LyS w q N G S I (j : Int) la n B f (w.alloc (.cells (gcells G S I (j : Int)) 23))) := ⟨At.new _ _ _, hA.alloc _, hl.alloc _, World.grownBy_alloc _ _ _⟩
  have HLA : Hid (∀ b off, la = some ⟨b, off, none⟩ → 0 < n → b ≠ q ∧ b < w.heap.size) := fun b off e h => ⟨hla b off e h, hlb b off e h⟩
  have HB1 := bkF_one B
  have j0 : (2 : Int) ≤ (j : Int) := by omega
  have j9 : (j : Int) ≤ 256 := by omega
  have HN := Lib.hid hN
  have HHA := Lib.hid ha
  have HN2 := Lib.hid hn
  have HA9 := Lib.hid ha9
  clear hA hl hla hlb hN ha hn ha9
  go_enter Tryd.func16, Tryd.ntmps16
  go_wp2_with fail
  go_loopw [2, 9] (fun u v wr => ∃ x i : Nat, u = .int .i64 (x : Int) ∧ v = .int .i64 (i : Int) ∧ x = a + i ∧ i ≤ n ∧ LyS w q N G S I (j : Int) la n B (layI f B j a i) wr) (fun _ v _ => n - (intOf v).toNat)
  case atStart => exact ⟨a, 0, rfl, rfl, rfl, Nat.zero_le _, st0.out⟩
  case round =>
    clear st0
    obtain ⟨x, i, rfl, rfl, hx, hi, st⟩ := hrel
    have HX := Lib.hid hx
    by_cases hlt : i < n
    · have hlt' : (i : Int) < (n : Int) := by omega
      have i0 : (0 : Int) ≤ (i : Int) := by omega
      have i9 : (i : Int) ≤ 2048 := by have := HN2.out; omega
      have hxb : 1 ≤ x ∧ x ≤ 200000 := by have := HHA.out; have := HN2.out; have := HA9.out; omega
      have x1 : (1 : Int) ≤ (x : Int) := by omega
      have x9 : (x : Int) ≤ 200000 := by omega
      obtain ⟨k, hk⟩ : ∃ k, k = (x - 1) % (j - 1) := ⟨_, rfl⟩
      have hkj : k < j - 1 := by rw [hk]; exact Nat.mod_lt _ (by omega)
      have hrem : ((x : Int) - 1).tmod ((j : Int) - 1) = (k : Int) := by
        rw [show (x : Int) - 1 = ((x - 1 : Nat) : Int) by omega, show (j : Int) - 1 = ((j - 1 : Nat) : Int) by omega, ← Int.ofNat_tmod, hk]
      have k0 : (0 : Int) ≤ (k : Int) := by omega
      have k9 : (k : Int) < 256 := by omega
      have hkN : 3 + k < N := by have := HN.out; omega
      have kN : 3 + (k : Int) < (N : Int) := by omega
      have kN0 : 0 ≤ 3 + (k : Int) := by omega
      have jne : ¬ (j : Int) - 1 = 0 := by omega
      obtain ⟨b, off, rfl, hsg⟩ : ∃ b off, la = some ⟨b, off, none⟩ ∧ RSeg wr b off 256 n (bkF B) := by
        rcases st.l with h | h
        · omega
        · exact h
      have HKX : Hid (3 + (a + i - 1) % (j - 1) = 3 + k) := by show _ = _; rw [hk, HX.out]
      have HSG := Lib.hid hsg
      have ST := Lib.hid st
      clear st hsg hk hx hkj hxb
      go_wp2_with fail
      refine wp_region_bar2 (LyS w q N G S I (j : Int) (some ⟨b, off, none⟩) n B (layI f B j a i)) 12 (by kernel_rfl) (by kernel_rfl) (by kernel_rfl) (by kernel_rfl) (by kernel_rfl) (by decide) ⟨ST.out.g.below (Below.refl _ _).drew ST.out.g.lt, ST.out.a.of_block rfl, ST.out.l.drew, ⟨ST.out.gr.os, ST.out.gr.tape, ST.out.gr.output, ST.out.gr.size, ST.out.gr.block⟩⟩ ?_
      simp only [List.take_succ_cons, List.take_zero, List.drop_succ_cons, List.drop_zero]
      clear ST
      intro hne
      have d3 : ∀ y : InW (LyS w q N G S I (j : Int) (some ⟨b, off, none⟩) n B (layI f B j a i)), y.W.cell? ⟨w.heap.size, 3, none⟩ = some (.int .i64 (j : Int)) := fun y => y.h.g.cell (i := 3) rfl
      have hrow : ∀ W, LyS w q N G S I (j : Int) (some ⟨b, off, none⟩) n B (layI f B j a i) W → W.rangeAt b (off + i * 256) (Ks .u8 256 (B i)) := fun W h => by
        rcases h.l with h0 | ⟨b', off', e, hs⟩
        · omega
        · injection e with e
          injection e with e1 e2
          subst e1 e2
          exact RSeg.range hs i hlt
      first | go_big_quiet_skip | (go_big_quiet_want; go_big_quiet_op; go_big_quiet_on)
      first | go_big_quiet_skip | (go_big_quiet_want; go_big_quiet_op; go_big_quiet_on)
      first | go_big_quiet_skip | (go_big_quiet_want; go_big_quiet_op; go_big_quiet_on)
      first | go_big_quiet_skip | (go_big_quiet_want; go_big_quiet_op; go_big_quiet_on)
      first | go_big_quiet_skip | (go_big_quiet_want; go_big_quiet_op; go_big_quiet_on)
      first | go_big_quiet_skip | (go_big_quiet_want; go_big_quiet_op; go_big_quiet_on)
      first | go_big_quiet_skip | (go_big_quiet_want; go_big_quiet_op; go_big_quiet_on)
      first | go_big_quiet_skip | (go_big_quiet_want; go_big_quiet_op; go_big_quiet_on)
      first | go_big_quiet_skip | (go_big_quiet_want; go_big_quiet_op; go_big_quiet_on)
      first | go_big_quiet_skip | (go_big_quiet_want; go_big_quiet_op; go_big_quiet_on)
      first | go_big_quiet_skip | (go_big_quiet_want; go_big_quiet_op; go_big_quiet_on)
      refine q_load rfl 32 (.tmp 26) rfl b (off + i * 256) rfl (Ks .u8 256 (B i)) _ hrow Tryd.underlying32 rfl (by rw [Ks_length]; exact info_block) ?_
      refine wpQuiet_frame (by simp only [Act.put, List.setIfInBounds_toArray, List.set_cons_succ, List.set_cons_zero]; exact rfl) ?_
      refine wpQuiet_nil ?_
      intro w5 h5
      have st5 := h5.out
      have hth := st5.a.there hkN
      have hset := Lib.hid (st5.a.set hkN (vs := Ks .u8 256 (B i)) (by simp [Ks]) (bkF_len _))
      have hl5 := st5.l
      have STN : Hid (LyS w q N G S I (j : Int) (some ⟨b, off, none⟩) n B (layI f B j a (i + 1)) (w5.setCells q ((3 + k) * 256) (Ks .u8 256 (B i)))) := by
        have ho := hset.out.2
        refine ⟨st5.g.only ho (by omega), hset.out.1.congr fun c hc => ?_, RRow.only hl5 ho fun b' off' e => (HLA.out b' off' e (by omega)).1, grown_onlyS st5.gr ho⟩
        unfold bkF
        show _ = Ks .u8 256 (if c = 3 + (a + i - 1) % (j - 1) then B i else layI f B j a i c)
        rw [HKX.out]
        split <;> rfl
      have hthD : w5.there q ((3 + k) * 256) (Ks .u8 256 (B i)).length := by rw [Ks_length]; exact hth
      clear st5 h5 hne d3 hrow hset hl5 hth
      go_wp2_with (first | (refine wp_storeMid rfl 32 (.tmp 28) (.tmp 27) rfl q ((3 + k) * 256) (Ks .u8 256 (B i)) rfl rfl hthD (by rw [Ks_length]; exact info_block) (Ks_oneL _ _ _) ?_))
      intro w6 hw6
      have ST6 := Lib.hid (show LyS w q N G S I (j : Int) (some ⟨b, off, none⟩) n B (layI f B j a (i + 1)) w6 from by rw [hw6.out]; exact STN.out)
      clear STN hthD hw6
      go_wp2_with fail
      go_roundw
      case rel => first | exact ⟨x + 1, i + 1, by first | rfl | go_num, by first | rfl | go_num, by have := HX.out; omega, by omega, ST6.out⟩ | ((repeat apply Exists.intro); exact ⟨⟨x + 1, i + 1, by first | rfl | go_num, by first | rfl | go_num, by have := HX.out; omega, by omega, ST6.out⟩, rfl⟩)
      case measure => simp [intOf]; omega
    · obtain rfl : i = n := by omega
      have ST := Lib.hid st
      clear st
      go_wp2_with fail
      go_ret
      exact ⟨by rw [HX.out]; rfl, ST.out.a, ST.out.gr⟩
end Go.Proofs.YtnbmmhoofilmfaaDoor

/- quernlaw18.awake, plainly: two transactions in a ring of 39 blocks. -/
namespace Go.Proofs.YtnbmmhoofilmfaaDoor
open Go.RowKit
set_option linter.unusedVariables false

def wa : Tr := ⟨7, 1, fun i => if i < 1 then 42 else 0, fun _ _ => 0, 0, fun _ => 0⟩
def wb : Tr := ⟨8, 0, fun _ => 0, fun _ _ => 0, 1, fun i => if i < 1 then 43 else 0⟩
theorem wa_ok : wa.Ok := by
  refine ⟨by decide, fun i => ?_, fun i => zero_bytJ, fun i => by show -9223372036854775808 ≤ (0 : Int) ∧ (0 : Int) ≤ _; decide, by decide, by decide, fun i hi => ?_, fun i hi => rfl⟩
  · show _ ≤ (if i < 1 then (42 : Int) else 0) ∧ (if i < 1 then (42 : Int) else 0) ≤ _
    split <;> decide
  · show (if i < 1 then (42 : Int) else 0) = 0
    have : 1 ≤ i := hi
    rw [if_neg (by omega)]
theorem wb_ok : wb.Ok := by
  refine ⟨by decide, fun i => by show -9223372036854775808 ≤ (0 : Int) ∧ (0 : Int) ≤ _; decide, fun i => zero_bytJ, fun i => ?_, by decide, by decide, fun i hi => rfl, fun i hi => ?_⟩
  · show _ ≤ (if i < 1 then (43 : Int) else 0) ∧ (if i < 1 then (43 : Int) else 0) ≤ _
    split <;> decide
  · show (if i < 1 then (43 : Int) else 0) = 0
    have : 1 ≤ i := hi
    rw [if_neg (by omega)]
theorem wa_E : packE wa = 0 := by decide
theorem wb_E : packE wb = 0 := by decide
theorem wa_c : wa.c = 2 := rfl
theorem wb_c : wb.c = 1 := rfl
/-- the image: its head, then the two transactions from place 39 on -/
def wI0 (b : Nat) : Nat → Int := if b = 2 then headZ 7 39 else fun _ => 0
def wI1 : Nat → Nat → Int := layI wI0 (pkB wa) 40 39 3
def wI : Nat → Nat → Int := layI wI1 (pkB wb) 40 42 2
theorem wI_eq (b : Nat) : wI b = if b = 6 then pkB wb 1 else if b = 5 then pkB wb 0 else if b = 4 then pkB wa 2 else if b = 3 then pkB wa 1 else if b = 41 then pkB wa 0 else wI0 b := by
  have m0 : 3 + (39 + 0 - 1) % (40 - 1) = 41 := by decide
  have m1 : 3 + (39 + 1 - 1) % (40 - 1) = 3 := by decide
  have m2 : 3 + (39 + 2 - 1) % (40 - 1) = 4 := by decide
  have m3 : 3 + (42 + 0 - 1) % (40 - 1) = 5 := by decide
  have m4 : 3 + (42 + 1 - 1) % (40 - 1) = 6 := by decide
  unfold wI wI1
  simp only [layI, m0, m1, m2, m3, m4]
theorem zero_byt18 : Byt (fun _ => 0) := fun _ => ⟨Int.le_refl 0, (by decide : (0 : Int) < 256)⟩
theorem headZ_byt18 (s t : Int) : Byt (headZ s t) := by
  unfold headZ; split
  · exact wz_byt _
  · exact zero_byt18
theorem wI0_byt (b : Nat) : Byt (wI0 b) := by unfold wI0; split; exact headZ_byt18 _ _; exact zero_byt18
theorem wI_byt (b : Nat) : Byt (wI b) := by
  rw [wI_eq]
  repeat (first | split | exact pkB_byt wb wb_ok _ | exact pkB_byt wa wa_ok _ | exact wI0_byt _)
theorem wR_m (k : Nat) (hk : k < 39) : (39 - 1 + k) % (40 - 1) = if k = 0 then 38 else k - 1 := by
  by_cases e : k = 0
  · subst e; decide
  · rw [if_neg e]; omega
theorem wR_0 (k : Nat) (hk : k < 39) : ringL wI 40 39 k = wI (3 + if k = 0 then 38 else k - 1) := by
  unfold ringL
  rw [wR_m k hk]
theorem wR_1 (k : Nat) (hk : k < 39) (h5 : 5 ≤ k) : wI (3 + if k = 0 then 38 else k - 1) = fun _ => 0 := by
  have h0 : ¬ k = 0 := by omega
  rw [if_neg h0, wI_eq]
  have : wI0 (3 + (k - 1)) = fun _ => 0 := by unfold wI0; rw [if_neg (by omega)]
  rw [this]
  rw [if_neg (by omega), if_neg (by omega), if_neg (by omega), if_neg (by omega), if_neg (by omega)]
theorem wR_2 {α : Type} (k : Nat) (hk : k < 39) (h5 : k < 5) (a b c d e f : α) : (if (3 + if k = 0 then 38 else k - 1) = 6 then e else if (3 + if k = 0 then 38 else k - 1) = 5 then d else if (3 + if k = 0 then 38 else k - 1) = 4 then c else if (3 + if k = 0 then 38 else k - 1) = 3 then b else if (3 + if k = 0 then 38 else k - 1) = 41 then a else f) =
    if k = 0 then a else if k = 1 then b else if k = 2 then c else if k = 3 then d else e := by
  have : k = 0 ∨ k = 1 ∨ k = 2 ∨ k = 3 ∨ k = 4 := by omega
  rcases this with rfl | rfl | rfl | rfl | rfl <;> rfl
theorem wR (k : Nat) (hk : k < 39) : ringL wI 40 39 k = if 5 ≤ k then fun _ => 0 else if k = 0 then pkB wa 0 else if k = 1 then pkB wa 1 else if k = 2 then pkB wa 2 else if k = 3 then pkB wb 0 else pkB wb 1 := by
  rw [wR_0 k hk]
  by_cases h5 : 5 ≤ k
  · rw [wR_1 k hk h5, if_pos h5]
  · rw [if_neg h5, wI_eq]
    exact wR_2 k hk (by omega) _ _ _ _ _ _
theorem wd_zero (k : Nat) : wd (fun _ => 0) k = 0 := by unfold wd g32; simp
theorem seq_zero : seqOf (fun _ => 0) = 0 := by
  have h : kindB (fun _ => 0) = false := by
    unfold kindB
    rw [wd_zero 0]
    rfl
  unfold seqOf
  rw [h]; rfl
theorem wL_s {α : Type} (a : Nat → α) (z b c : α) (i : Nat) (hi : i ≤ 2) : (if 5 ≤ i then z else if i = 0 then a 0 else if i = 1 then a 1 else if i = 2 then a 2 else if i = 3 then b else c) = a i := by
  rw [if_neg (by omega)]
  have : i = 0 ∨ i = 1 ∨ i = 2 := by omega
  rcases this with rfl | rfl | rfl <;> rfl
theorem wL_a (i : Nat) (hi : i ≤ wa.c) : ringL wI 40 39 (0 + i) = pkB wa i := by
  rw [wa_c] at hi
  rw [Nat.zero_add]
  exact (wR i (by omega)).trans (wL_s (pkB wa) _ _ _ i hi)
theorem wL_b (i : Nat) (hi : i ≤ wb.c) : ringL wI 40 39 (0 + (wa.c + 1) + i) = pkB wb i := by
  rw [wb_c] at hi
  have e : 0 + (wa.c + 1) + i = 3 + i := by rw [wa_c]
  rw [e, wR _ (by omega), if_neg (by omega)]
  have : i = 0 ∨ i = 1 := by omega
  generalize pkB wa = A
  generalize pkB wb = B
  rcases this with rfl | rfl <;> rfl
theorem wL_c : seqOf (ringL wI 40 39 (0 + (wa.c + 1) + (wb.c + 1))) ≠ 7 + 1 + 1 := by
  have e : 0 + (wa.c + 1) + (wb.c + 1) = 5 := by rw [wa_c, wb_c]
  rw [e, wR _ (by omega), if_pos (by omega), seq_zero]
  decide
theorem wN_a : 0 + (wa.c + 1) ≤ 39 := by rw [wa_c]; decide
theorem wN_b : 0 + (wa.c + 1) + (wb.c + 1) ≤ 39 := by rw [wa_c, wb_c]; decide
theorem wLaid : Laid (ringL wI 40 39) 39 0 7 [wa, wb] :=
  .cons wa_ok (fun i _ => rfl) wa_E rfl wN_a wL_a (.cons wb_ok (fun i _ => rfl) wb_E rfl wN_b wL_b (.nil fun _ => wL_c))
theorem head_rd {s t : Int} (h : headOk s t = true) : headRd (headZ s t) = true ∧ hdS (headZ s t) = s ∧ hdT (headZ s t) = t := by
  have h' := h
  unfold headOk at h'
  rw [Bool.and_eq_true, decide_eq_true_eq] at h'
  obtain ⟨hs, ht⟩ := h'
  have hsb := seqB_bd hs
  have hz : headZ s t = wz (jw 4 s t nz) := by unfold headZ; rw [h]; rfl
  have e := wds_eq (jw_wds (by decide) (by omega) (by omega) nz_wds) hz
  have e0 : wd (headZ s t) 0 = 1280199249 := e 0
  have e1 : wd (headZ s t) 1 = 4 := e 1
  have e2 : wd (headZ s t) 2 = s := e 2
  have e3 : wd (headZ s t) 3 = t := e 3
  have hk : kindB (headZ s t) = true := by unfold kindB; rw [e0, e1, e2, hs]; rfl
  have hk4 : kindOf (headZ s t) = 4 := by unfold kindOf; rw [hk, e1]; rfl
  have hq : seqOf (headZ s t) = s := by unfold seqOf; rw [hk, e2]; rfl
  have hr : headRd (headZ s t) = true := by
    unfold headRd
    rw [hk4, e3, decide_eq_true ht.2]
    simp only [beq_self_eq_true, Bool.true_and]
    rw [allZ_iff]
    intro j _
    rw [e]
    unfold jw nz
    rw [if_neg (by omega), if_neg (by omega), if_neg (by omega), if_neg (by omega)]
  refine ⟨hr, ?_, ?_⟩
  · unfold hdS; rw [hr, if_pos rfl, hq]
  · unfold hdT; rw [hr, if_pos rfl, e3]
theorem wHead : headRd (headZ 7 39) = true ∧ hdS (headZ 7 39) = 7 ∧ hdT (headZ 7 39) = 39 := head_rd (by decide)
end Go.Proofs.YtnbmmhoofilmfaaDoor

/- quernlaw18.awake, plainly: what is found. -/
namespace Go.Proofs.YtnbmmhoofilmfaaDoor
open Go.RowKit
set_option linter.unusedVariables false

theorem wI_2 : wI 2 = headZ 7 39 := by
  rw [wI_eq, if_neg (by decide), if_neg (by decide), if_neg (by decide), if_neg (by decide), if_neg (by decide)]
  unfold wI0
  rw [if_pos rfl]
theorem w_fdL : fdL 40 wI = [wa, wb] := by
  unfold fdL
  rw [wI_2, wHead.2.1, wHead.2.2, if_pos (by decide)]
  exact fnd_laid (fun i => wI_byt _) wLaid (by decide) (by decide)
theorem w_all : [wa, wb].all (outTr 1 16 4 40) = true := by decide
theorem w_fdE : fdE 1 16 4 40 58 wI = 0 := by
  unfold fdE
  rw [w_fdL, w_all, wI_2, wHead.1, wHead.2.1, wHead.2.2, if_neg (by decide), if_neg (by decide), if_neg (by decide), if_neg (by decide), if_neg (by decide)]
theorem w_fdE0 : fdE 1 16 4 40 58 (fun _ _ => 0) = 90 := by
  have hk : kindOf (fun _ => 0) = 0 := by
    have h : kindB (fun _ => 0) = false := by
      unfold kindB
      rw [wd_zero 0]
      rfl
    unfold kindOf
    rw [h]; rfl
  have h : headRd (fun _ => 0) = false := by
    unfold headRd
    rw [hk]; rfl
  unfold fdE
  rw [if_neg (by decide), if_neg (by decide), if_pos (.inl h)]
/-- the image with a byte otherwise -/
def wy : Nat → Int := fun k => if k = 9 then 1 else 0
def wJ (b : Nat) : Nat → Int := if b = 3 then wy else wI b
theorem wy_byt : Byt wy := fun i => by unfold wy; split <;> decide
theorem wy_e : escB wy = false := by decide
theorem z_e : escB (fun _ => 0) = false := by unfold escB; rw [wd_zero 0]; rfl
def wc : Tr := ⟨7, 1, wa.cb, fun i => if i < 1 then wy else fun _ => 0, 0, fun _ => 0⟩
theorem pk_a0 : pkB wa 0 = jdZ 7 1 (fun k => wa.cb k) (fun k => escB (wa.cd k)) := by
  unfold pkB; rw [if_pos (by decide)]; unfold pk0; rw [if_pos (by decide), if_pos (by decide)]
  simp only [Nat.zero_div, Nat.mul_zero, Nat.zero_add]; rfl
theorem pk_c0 : pk0 wc 0 = pk0 wa 0 := by
  unfold pk0; rw [if_pos (by decide), if_pos (by decide), if_pos (by decide), if_pos (by decide)]
  simp only [Nat.zero_div, Nat.mul_zero, Nat.zero_add]
  have e : (fun k => escB (wc.cd k)) = (fun k => escB (wa.cd k)) := by
    funext k
    show escB (if k < 1 then wy else fun _ => 0) = escB (fun _ => 0)
    rw [z_e]
    split
    · exact wy_e
    · exact z_e
  rw [e]; rfl
theorem pk_c1 : pk0 wc 1 = wy := by
  unfold pk0; rw [if_pos (by decide), if_neg (by decide)]
  show escZ wy = wy
  unfold escZ
  rw [wy_e]; rfl
theorem pk_a1 : pk0 wa 1 = fun _ => 0 := by
  unfold pk0; rw [if_pos (by decide), if_neg (by decide)]
  show escZ (fun _ => 0) = fun _ => 0
  unfold escZ
  rw [z_e]; rfl
theorem crc_ne : crcB (pk0 wc) 2 ≠ crcB (pk0 wa) 2 := by
  have h0 : foldN 4294967295 (pk0 wa 0) 256 < 4294967296 := foldN_lt (by decide) (pk0_byt wa wa_ok 0) 256
  have h1 := foldN_one h0 wy_byt zero_byt18 (n := 256) (j := 9) (by decide) (by decide) (fun i _ hi => by unfold wy; rw [if_neg hi])
  have h2 := foldN_lt h0 wy_byt 256
  have h3 := foldN_lt h0 zero_byt18 256
  unfold crcB foldP foldP foldP
  rw [pk_c0, pk_c1, pk_a1]
  omega
theorem unp_wy {L : Nat → Nat → Int} (h0 : L 0 = pkB wa 0) (h1 : L 1 = wy) (h2 : L 2 = pkB wa 2) : unp L 39 7 = none := by
  obtain ⟨d1, d2, d3, d4, d5, _⟩ := desc_law 7 1 (fun k => wa.cb k) (fun k => escB (wa.cd k)) (fun k => by show 0 ≤ (if k < 1 then (42 : Int) else 0) ∧ (if k < 1 then (42 : Int) else 0) < _; split <;> decide) (by decide)
  rw [← pk_a0, ← h0] at d1 d2 d3 d4 d5
  have hv : 0 ≤ crcB (pk0 wa) 2 ∧ crcB (pk0 wa) 2 < 4294967296 := by unfold crcB; omega
  have hv' : 0 ≤ crcB (pk0 wc) 2 ∧ crcB (pk0 wc) 2 < 4294967296 := by unfold crcB; omega
  have e2 : pkB wa 2 = commitZ 7 2 (crcB (pk0 wa) 2) := by unfold pkB; rw [if_neg (by decide)]; rfl
  have e2' : pkB wc 2 = commitZ 7 2 (crcB (pk0 wc) 2) := by unfold pkB; rw [if_neg (by decide)]; rfl
  obtain ⟨_, c1, c2⟩ := commit_law 7 2 (crcB (pk0 wa) 2) hv (by decide)
  rw [← e2, ← h2] at c1 c2
  have ht : addC (tr0 7) L 1 1 (descT (L 0)) (jdE (L 0)) = wc := by
    obtain ⟨q1, q2⟩ := d3 0 (by decide)
    have q2 : jdE (L 0) 0 = false := q2.trans z_e
    have q1 : descT (L 0) 0 = 42 := q1
    unfold addC wc
    refine Tr.mk.injEq _ _ _ _ _ _ _ _ _ _ _ _ |>.mpr ⟨rfl, rfl, ?_, ?_, rfl, rfl⟩
    · funext i
      show (if i < 0 then (0 : Int) else if i < 0 + 1 then descT (L 0) (i - 0) else 0) = if i < 1 then 42 else 0
      rw [if_neg (Nat.not_lt_zero i)]
      by_cases hi : i < 1
      · obtain rfl : i = 0 := by omega
        rw [if_pos (by decide), if_pos (by decide)]; exact q1
      · rw [if_neg hi, if_neg hi]
    · funext i
      show (if i < 0 then (fun _ => (0 : Int)) else if i < 0 + 1 then (if jdE (L 0) (i - 0) = true then unescZ (L (1 + (i - 0))) else L (1 + (i - 0))) else fun _ => 0) = if i < 1 then wy else fun _ => 0
      rw [if_neg (Nat.not_lt_zero i)]
      by_cases hi : i < 1
      · obtain rfl : i = 0 := by omega
        have hn : ¬ jdE (L 0) (0 - 0) = true := by rw [Nat.sub_zero, q2]; decide
        exact ((if_pos (by decide)).trans ((if_neg hn).trans h1)).trans (if_pos (by decide)).symm
      · rw [if_neg hi, if_neg hi]
  have hp : prs L (min 39 255) 7 (min 39 255) 0 (tr0 7) = some (wc, 3) := by
    have p0 := prs_step L 39 7 0 (tr0 7) (by decide)
    rw [d5, d4, d1, d2] at p0
    rw [if_pos rfl, if_pos rfl, if_pos ⟨rfl, by decide⟩] at p0
    have p1 := prs_step L 39 7 2 (addC (tr0 7) L 1 1 (descT (L 0)) (jdE (L 0))) (by decide)
    rw [c2, c1] at p1
    rw [if_pos rfl, if_neg (by decide), if_neg (by decide), if_pos rfl, ht] at p1
    rw [ht] at p0
    exact p0.trans p1
  unfold unp
  rw [hp]
  show (if packE wc = 0 ∧ sameB (pkB wc) L (wc.c + 1) 3 = true then some (wc, 3) else none) = none
  refine if_neg fun h => ?_
  have hs := h.2
  unfold sameB at hs
  rw [Bool.and_eq_true, eqBs_iff] at hs
  have h2b : ∀ j, j < 256 → commitZ 7 2 (crcB (pk0 wc) 2) j = commitZ 7 2 (crcB (pk0 wa) 2) j := fun j hj => by
    have := hs.2 2 (by decide) j hj
    rwa [h2, e2, e2'] at this
  have hz : ∀ v, commitZ 7 2 v = wz (jw 2 7 2 (sumR v)) := fun v => by unfold commitZ; rw [if_pos (by decide)]
  have hw : ∀ v, 0 ≤ v ∧ v < 4294967296 → wd (commitZ 7 2 v) 4 = v := fun v hv => by
    rw [wds_eq (jw_wds (by decide) (by decide) (by decide) (sumR_wds hv)) (hz v) 4]; rfl
  have hg : wd (commitZ 7 2 (crcB (pk0 wc) 2)) 4 = wd (commitZ 7 2 (crcB (pk0 wa) 2)) 4 := by
    unfold wd g32
    rw [h2b _ (by decide), h2b _ (by decide), h2b _ (by decide), h2b _ (by decide)]
  rw [hw _ hv, hw _ hv'] at hg
  exact crc_ne hg
theorem wJ_2 : wJ 2 = headZ 7 39 := by unfold wJ; rw [if_neg (by decide), wI_2]
theorem wJ_ring : ringL wJ 40 39 0 = pkB wa 0 ∧ ringL wJ 40 39 1 = wy ∧ ringL wJ 40 39 2 = pkB wa 2 := by
  have a0 := wL_a 0 (by decide)
  have a2 := wL_a 2 (by decide)
  unfold ringL at a0 a2 ⊢
  unfold wJ
  exact ⟨(if_neg (by decide)).trans a0, if_pos (by decide), (if_neg (by decide)).trans a2⟩
theorem w_fdLJ : fdL 40 wJ = [] := by
  unfold fdL
  rw [wJ_2, wHead.2.1, wHead.2.2, if_pos (by decide)]
  show fnd (ringL wJ 40 39) 39 0 7 = []
  refine fnd_none ?_
  have : (fun i => ringL wJ 40 39 (0 + i)) = ringL wJ 40 39 := by funext i; rw [Nat.zero_add]
  rw [this]
  exact unp_wy wJ_ring.1 wJ_ring.2.1 wJ_ring.2.2
theorem w_fdEJ : fdE 1 16 4 40 58 wJ = 0 := by
  unfold fdE
  rw [w_fdLJ, wJ_2, wHead.1, wHead.2.1, wHead.2.2, if_neg (by decide), if_neg (by decide), if_neg (by decide), if_neg (by decide), if_neg (by decide)]
end Go.Proofs.YtnbmmhoofilmfaaDoor

/- quernlaw15.Block: a block as told (out of Pk14). -/
namespace Go.Proofs.YtnbmmhoofilmfaaDoor
open Go.RowKit
set_option linter.unusedVariables false

def rowB (f : Int) (mg : Bool) : Nat → Int := if mg then over (fun _ => f) 0 4 (byteOf 1280199249) else fun _ => f
theorem rowB_byt {f : Int} (hf : 0 ≤ f ∧ f < 256) (mg : Bool) : Byt (rowB f mg) := by
  unfold rowB; split
  · exact byt_over (fun _ => hf) (byt_byteOf _) _ _
  · exact fun _ => hf
abbrev rwcB (b f : Int) (mg : Bool) : Array Value := #[.int .i64 b, .int .u8 f, .bool mg]
structure B15x (w : World) (b f : Int) (mg : Bool) (z : Nat → Int) (W : World) : Prop where
  x : At W w.heap.size 63 (rwcB b f mg)
  r : Blk W (w.heap.size + 1) 32 256 (fun _ => 0)
  b : Blk W (w.heap.size + 2) 32 256 z
  bel : Below w.heap.size w W
theorem B15x.step {w : World} {b f : Int} {mg : Bool} {z z' : Nat → Int} {W W' : World} (h : B15x w b f mg z W) (hB : Blk W' (w.heap.size + 2) 32 256 z') (ho : Only (w.heap.size + 2) W W') : B15x w b f mg z' W' :=
  ⟨h.x.only ho (by omega), h.r.only ho (by omega), hB, h.bel.trans (ho.below (by omega))⟩
theorem B15x.congr {w : World} {b f : Int} {mg : Bool} {z z' : Nat → Int} {W : World} (h : B15x w b f mg z W) (he : ∀ i, i < 256 → z i = z' i) : B15x w b f mg z' W := ⟨h.x, h.r, h.b.congr he, h.bel⟩

set_option maxRecDepth 100000 in
set_option maxHeartbeats 4000000 in
theorem block15b_any (b f : Int) (hf : 0 ≤ f ∧ f < 256) (mg : Bool) (w : World) : Calls Tryd.prog 52 #[.agg (rwcB b f mg)] w fun e w' => e = .returned (bval (rowB f mg)) ∧ Below w.heap.size w w' := by
  have hal := zero_block
  have st0 : Hid (B15x w b f mg (fun i => if i < 0 then f else 0) (((w.alloc (.cells (rwcB b f mg) 63)).alloc (.cells (Ks .u8 256 (fun _ => 0)).toArray 32)).alloc (.cells (Ks .u8 256 (fun _ => 0)).toArray 32))) := by
    refine ⟨((At.new w _ _).alloc _).alloc _, ?_, ?_, (((Below.refl _ _).alloc (Nat.le_refl _) _).alloc (by simp) _).alloc (by simp; omega) _⟩
    · have := (Blk.new (w.alloc (.cells (rwcB b f mg) 63)) 32 256 (fun _ => 0)).alloc (.cells (Ks .u8 256 (fun _ => 0)).toArray 32)
      simp only [World.size_alloc] at this; exact this
    · have := Blk.new ((w.alloc (.cells (rwcB b f mg) 63)).alloc (.cells (Ks .u8 256 (fun _ => 0)).toArray 32)) 32 256 (fun _ => 0)
      simp only [World.size_alloc] at this
      exact this.congr fun i _ => by rw [if_neg (by omega)]
  go_enter Tryd.func52, Tryd.ntmps52
  go_wp2_with fail
  go_loopw [4] (fun u wr => ∃ k : Nat, k ≤ 256 ∧ u = .int .i64 (k : Int) ∧ B15x w b f mg (fun i => if i < k then f else 0) wr) (fun u _ => 256 - (intOf u).toNat)
  case atStart => exact ⟨0, by omega, rfl, st0.out⟩
  case round =>
    clear st0
    obtain ⟨k, hk, rfl, st⟩ := hrel
    by_cases hlt : k < 256
    · have hB := st.b
      have l1 : (k : Int) < 256 := by omega
      have c1 : wr.cell? ⟨w.heap.size, 1, none⟩ = some (.int .u8 f) := st.x.cell (i := 1) rfl
      go_wp2_with (first | (refine wp_storeByte rfl (.tmp 12) (.tmp 11) rfl (w.heap.size + 2) k f rfl rfl hB hlt ?_))
      intro w7 hb7 ho7
      have st7 : B15x w b f mg (fun i => if i < k + 1 then f else 0) w7 := st.step (hb7.congr fun i _ => by
        unfold over
        by_cases e : k ≤ i ∧ i < k + 1
        · rw [if_pos e, if_pos (by omega)]
        · rw [if_neg e]
          show (if i < k then f else 0) = _
          by_cases e2 : i < k
          · rw [if_pos e2, if_pos (by omega)]
          · rw [if_neg e2, if_neg (by omega)]) ho7
      clear st hB hb7 ho7
      go_wp2_with fail
      go_roundw
      case rel => first | exact ⟨k + 1, by omega, by go_num, st7⟩ | exact ⟨k + 1, by omega, rfl, st7⟩
      case measure => simp [intOf]; omega
    · obtain rfl : k = 256 := by omega
      have st2 : B15x w b f mg (fun _ => f) wr := st.congr fun i hi => by rw [if_pos hi]
      have c2 : wr.cell? ⟨w.heap.size, 2, none⟩ = some (.bool mg) := st2.x.cell (i := 2) rfl
      clear st
      cases mg with
      | false =>
        have HST := Lib.hid st2
        have hB := st2.b
        have hR := st2.r
        clear st2
        go_wp2_with (first | (refine wp_loadBlkG rfl (.tmp 3) rfl (w.heap.size + 2) (fun _ => f) rfl hB ?_) | (refine wp_storeBlk rfl (.tmp 2) (.tmp 19) rfl (w.heap.size + 1) (fun _ => f) _ rfl rfl hR ?_))
        intro w3 hR3 ho3
        have HLZ := Lib.hid (HST.out.bel.trans (ho3.below (by omega)))
        clear HST hB hR ho3
        go_wp2_with fail
        exact bodyPost_ret (results_blk rfl _ _ (w.heap.size + 1) _ rfl hR3) rfl ⟨rfl, HLZ.out⟩
      | true =>
        have hB := st2.b
        go_wp2_with (first | (refine wp_storeByte rfl (.tmp 15) (.const (.int .u8 81)) rfl (w.heap.size + 2) 0 81 rfl rfl hB (by decide) ?_))
        intro w4 hb4 ho4
        have st4 := st2.step hb4 ho4
        have hB4 := st4.b
        clear st2 hB hb4 ho4
        go_wp2_with (first | (refine wp_storeByte rfl (.tmp 16) (.const (.int .u8 74)) rfl (w.heap.size + 2) 1 74 rfl rfl hB4 (by decide) ?_))
        intro w5 hb5 ho5
        have st5 := st4.step hb5 ho5
        have hB5 := st5.b
        clear st4 hB4 hb5 ho5
        go_wp2_with (first | (refine wp_storeByte rfl (.tmp 17) (.const (.int .u8 78)) rfl (w.heap.size + 2) 2 78 rfl rfl hB5 (by decide) ?_))
        intro w6 hb6 ho6
        have st6 := st5.step hb6 ho6
        have hB6 := st6.b
        clear st5 hB5 hb6 ho6
        go_wp2_with (first | (refine wp_storeByte rfl (.tmp 18) (.const (.int .u8 76)) rfl (w.heap.size + 2) 3 76 rfl rfl hB6 (by decide) ?_))
        intro w7 hb7 ho7
        have st7 := (st6.step hb7 ho7).congr (z' := rowB f true) fun i _ => by
          unfold rowB over
          rw [if_pos rfl]
          by_cases e3 : i = 3
          · subst e3; rfl
          by_cases e2 : i = 2
          · subst e2; rfl
          by_cases e1 : i = 1
          · subst e1; rfl
          by_cases e0 : i = 0
          · subst e0; rfl
          rw [if_neg (by omega), if_neg (by omega), if_neg (by omega), if_neg (by omega), if_neg (by omega)]
        have HST := Lib.hid st7
        have hB7 := st7.b
        have hR := st7.r
        clear st6 hB6 hb7 ho7 st7
        go_wp2_with (first | (refine wp_loadBlkG rfl (.tmp 3) rfl (w.heap.size + 2) (rowB f true) rfl hB7 ?_) | (refine wp_storeBlk rfl (.tmp 2) (.tmp 19) rfl (w.heap.size + 1) (rowB f true) _ rfl rfl hR ?_))
        intro w3 hR3 ho3
        have HLZ := Lib.hid (HST.out.bel.trans (ho3.below (by omega)))
        clear HST hB7 hR ho3
        go_wp2_with fail
        exact bodyPost_ret (results_blk rfl _ _ (w.heap.size + 1) _ rfl hR3) rfl ⟨rfl, HLZ.out⟩
end Go.Proofs.YtnbmmhoofilmfaaDoor

/- quernlaw18.Image of a journal with 255 blocks of one byte. -/
namespace Go.Proofs.YtnbmmhoofilmfaaDoor
open Go.RowKit
set_option linter.unusedVariables false

abbrev jcells (G S I J s t : Int) (oa : Option Addr) (on oc : Nat) : Array Value := #[.int .i64 G, .int .i64 S, .int .i64 I, .int .i64 J, .int .u32 s, .int .i64 t, .slice none 0 0, .slice none 0 0, .slice oa on oc]
/-- the image while the ring's blocks are told -/
def imI (f : Int) (i b : Nat) : Nat → Int := if 3 ≤ b ∧ b < 3 + i then rowB f false else fun _ => 0
def imF (f : Int) (j : Nat) (s t : Int) (b : Nat) : Nat → Int := if b = 2 then headZ s t else imI f (j - 1) b
structure Im18 (w : World) (G S I J s t : Int) (oa : Option Addr) (oc q N : Nat) (f : Nat → Nat → Int) (W : World) : Prop where
  x : At W w.heap.size 41 (jcells G S I J s t oa 255 oc)
  a : RArr W q 32 256 N (bkF f)
  bel : Below w.heap.size w W
section
variable {w : World} {G S I J s t : Int} {oa : Option Addr} {oc q N : Nat} {f : Nat → Nat → Int} {W W' : World}
theorem Im18.below (h : Im18 w G S I J s t oa oc q N f W) (hb : Below W.heap.size W W') : Im18 w G S I J s t oa oc q N f W' :=
  ⟨h.x.below hb h.x.lt, h.a.below hb, h.bel.trans (hb.mono h.bel.size)⟩
theorem jc_geo {p : Nat} {on : Nat} (h : At W p 41 (jcells G S I J s t oa on oc)) : W.rangeAt p 0 (gcells G S I J).toList := fun k v hv => by
  have hk := (List.getElem?_eq_some_iff.1 hv).1
  exact h.range k v (by rw [show (jcells G S I J s t oa on oc).toList = (gcells G S I J).toList ++ [.int .u32 s, .int .i64 t, .slice none 0 0, .slice none 0 0, .slice oa on oc] from rfl, List.getElem?_append_left hk]; exact hv)
theorem jc_head {p : Nat} {on : Nat} (h : At W p 41 (jcells G S I J s t oa on oc)) : W.rangeAt p 4 [.int .u32 s, .int .i64 t] := fun k v hv => by
  have hk : k < 2 := (List.getElem?_eq_some_iff.1 hv).1
  have := h.range (4 + k) v (by
    have : k = 0 ∨ k = 1 := by omega
    rcases this with rfl | rfl <;> exact hv)
  rwa [Nat.zero_add] at this
end
theorem info_blk18 : (Tryd.prog.info? 32).map (fun i => (i.zero, i.size, i.bytes)) = some (some (bval fun _ => 0), 256, 256) := by kernel_rfl
theorem run_mk18 (n : Nat) (hn : n ≤ 2048) (W : World) : (Instr.makeSlice 24 (.int .i64 (n : Int)) (.int .i64 (n : Int))).run Tryd.prog W = .ok (.slice (some ⟨W.heap.size, 0, none⟩) n n) (W.alloc (.cells (madeCells (bval fun _ => 0).cells (n * 256)) 32)) :=
  run_mkrow (P := Tryd.prog) 24 32 (bval fun _ => 0) 256 256 Tryd.underlying24 info_blk18 .i64 .i64 n (by omega) (by omega) W
theorem img_mk18 (w : World) (n : Nat) : RArr (w.alloc (.cells (madeCells (bval fun _ => 0).cells (n * 256)) 32)) w.heap.size 32 256 n (fun _ => Ks .u8 256 (fun _ => 0)) :=
  RArr.made (m := 256) w (Ks .u8 256 (fun _ => 0)).toArray (by simp [Ks]) (by omega) n 32
theorem rows18 (f : Int) : ∀ i : Nat, ([.int .i64 0, .int .u8 f, .bool false] : List Value).length = 3 := fun _ => rfl

set_option maxRecDepth 100000 in
set_option maxHeartbeats 8000000 in
theorem image18_any (G S I J s t f : Int) (hs : 0 ≤ s ∧ s < 4294967296) (ht : -9223372036854775808 ≤ t ∧ t ≤ 9223372036854775807) (hf : 0 ≤ f ∧ f < 256) (b off oc : Nat) (w : World) (hb : b < w.heap.size) (hr : RSeg w b off 3 255 (fun _ => [.int .i64 0, .int .u8 f, .bool false])) :
    Calls Tryd.prog 21 #[.agg (jcells G S I J s t (some ⟨b, off, none⟩) 255 oc)] w fun e w' => ∃ q N : Nat, (N : Int) = nBl G S I J ∧ e = .returned (.slice (some ⟨q, 0, none⟩) N N) ∧ w.heap.size ≤ q ∧
      RArr w' q 32 256 N (bkF (imF f J.toNat s t)) ∧ Below w.heap.size w w' := by
  have hs0 := At.new w 41 (jcells G S I J s t (some ⟨b, off, none⟩) 255 oc)
  have HL0 : Hid (Below w.heap.size w (w.alloc (.cells (jcells G S I J s t (some ⟨b, off, none⟩) 255 oc) 41))) := (Below.refl _ _).alloc (Nat.le_refl _) _
  have hg0 := jc_geo hs0
  go_enter Tryd.func21, Tryd.ntmps21
  go_wp2_with (first | (refine wp_loadMid rfl 23 (.tmp 14) rfl w.heap.size 0 (gcells G S I J).toList _ rfl hg0 Tryd.underlying23 rfl (by kernel_rfl) ?_))
  refine (rBlocks_any G S I J _).mono ?_
  rintro e w1 ⟨rfl, hb1⟩
  have x1 := hs0.below hb1 hs0.lt
  have L1 := HL0.out.trans (hb1.mono HL0.out.size)
  obtain ⟨N, hN, hN9⟩ : ∃ N : Nat, nBl G S I J = (N : Int) ∧ N ≤ 2048 := by
    unfold nBl
    cases hm : mayG G S I J with
    | false => exact ⟨0, rfl, by decide⟩
    | true =>
      obtain ⟨h1, h2, h3, h4, _, _, _, _, _, _, h5⟩ := (mayG_iff G S I J).1 hm
      have := (GS_bd h1 h2 h3 h4).1
      exact ⟨(2 + J + G * S).toNat, by rw [if_pos rfl]; omega, by omega⟩
  rw [hN]
  have HN := Lib.hid hN
  obtain ⟨q, hq⟩ : ∃ q, q = w1.heap.size := ⟨_, rfl⟩
  have ST1 : Hid (Im18 w G S I J s t (some ⟨b, off, none⟩) oc q N (imI f 0) (w1.alloc (.cells (madeCells (bval fun _ => 0).cells (N * 256)) 32))) :=
    ⟨x1.alloc _, by
      rw [hq]
      refine (img_mk18 w1 N).congr fun i _ => ?_
      unfold bkF imI
      rw [if_neg (by omega)], L1.alloc (by have := x1.lt; omega) _⟩
  have hqw : w.heap.size < q := by rw [hq]; exact x1.lt
  have hmk := run_mk18 N hN9 w1
  rw [← hq] at hmk
  obtain ⟨W1, hW1⟩ : ∃ W1, W1 = w1.alloc (.cells (madeCells (bval fun _ => 0).cells (N * 256)) 32) := ⟨_, rfl⟩
  rw [← hW1] at hmk ST1
  have HQ := Lib.hid hqw
  have n0 : (0 : Int) ≤ (N : Int) := by omega
  clear hs0 HL0 hg0 hb1 x1 L1 hW1 hq hqw hN
  by_cases hz : N = 0
  · subst hz
    have hmk0 : (Instr.makeSlice 24 (.int .i64 0) (.int .i64 0)).run Tryd.prog w1 = .ok (.slice (some ⟨q, 0, none⟩) 0 0) W1 := hmk
    go_wp2_with fail
    go_ret
    exact ⟨q, 0, HN.out.symm, rfl, by have := HQ.out; omega, ST1.out.a.congr (fun i hi => by omega), ST1.out.bel⟩
  have hnz : ¬ (N : Int) = 0 := by omega
  have hm : mayG G S I J = true := by
    cases hm : mayG G S I J with
    | true => rfl
    | false => have := HN.out; unfold nBl at this; rw [hm] at this; exact absurd this.symm hnz
  obtain ⟨_, _, _, _, _, _, _, hj0, hj9, _, _⟩ := (mayG_iff G S I J).1 hm
  obtain ⟨j, rfl⟩ : ∃ j : Nat, J = (j : Int) := ⟨J.toNat, by omega⟩
  have hjN : 2 + j ≤ N := by
    have h := HN.out
    unfold nBl at h
    rw [hm, if_pos rfl] at h
    obtain ⟨h1, h2, h3, h4, _⟩ := (mayG_iff G S I j).1 hm
    have := (GS_bd h1 h2 h3 h4).1
    omega
  have HJ : Hid (40 ≤ j ∧ j ≤ 256 ∧ 2 + j ≤ N) := ⟨by omega, by omega, hjN⟩
  clear hm hjN
  go_wp2_with fail
  rw [show ((N : Int) == 0) = false from beq_eq_false_iff_ne.2 hnz]
  go_loopw [4] (fun v wr => ∃ i : Nat, v = .int .i64 (i : Int) ∧ i ≤ j - 1 ∧ Im18 w G S I (j : Int) s t (some ⟨b, off, none⟩) oc q N (imI f i) wr) (fun v _ => j - 1 - (intOf v).toNat)
  case atStart => exact ⟨0, rfl, Nat.zero_le _, ST1.out⟩
  case round =>
    clear ST1 hmk
    obtain ⟨i, rfl, hi, st⟩ := hrel
    have i0 : (0 : Int) ≤ (i : Int) := by omega
    have i9 : (i : Int) ≤ 255 := by have := HJ.out; omega
    have d3 : wr.cell? ⟨w.heap.size, 3, none⟩ = some (.int .i64 (j : Int)) := st.x.cell (i := 3) rfl
    have d8 : wr.cell? ⟨w.heap.size, 8, none⟩ = some (.slice (some ⟨b, off, none⟩) 255 oc) := st.x.cell (i := 8) rfl
    by_cases hlt : i < j - 1
    · have l1 : (i : Int) < 255 := by have := HJ.out; omega
      have l2 : (i : Int) < (j : Int) - 1 := by omega
      have hrow : wr.rangeAt b (off + i * 3) [.int .i64 0, .int .u8 f, .bool false] := by
        have := hr.below st.bel hb
        exact RSeg.range this i (by omega)
      have kN : 3 + (i : Int) < (N : Int) := by have := HJ.out; omega
      have ST := Lib.hid st
      clear st
      go_wp2_with (first | (refine wp_loadMid rfl 63 (.tmp 43) rfl b (off + i * 3) [.int .i64 0, .int .u8 f, .bool false] _ rfl hrow Tryd.underlying63 rfl (by kernel_rfl) ?_))
      refine (block15b_any 0 f hf false wr).mono ?_
      rintro e w5 ⟨rfl, hb5⟩
      have st5 := ST.out.below hb5
      have hkN : 3 + i < N := by have := HJ.out; omega
      have hth := st5.a.there hkN
      have hset := Lib.hid (st5.a.set hkN (vs := Ks .u8 256 (rowB f false)) (by simp [Ks]) (bkF_len _))
      have STN : Hid (Im18 w G S I (j : Int) s t (some ⟨b, off, none⟩) oc q N (imI f (i + 1)) (w5.setCells q ((3 + i) * 256) (Ks .u8 256 (rowB f false)))) := by
        have ho := hset.out.2
        have hq := HQ.out
        refine ⟨st5.x.only ho (by omega), hset.out.1.congr fun c hc => ?_, st5.bel.trans (ho.below (by omega))⟩
        unfold bkF imI
        by_cases e : c = 3 + i
        · rw [if_pos e, if_pos (by omega)]
        · rw [if_neg e]
          by_cases e2 : 3 ≤ c ∧ c < 3 + i
          · rw [if_pos e2, if_pos (by omega)]
          · rw [if_neg e2, if_neg (by omega)]
      have hthD : w5.there q ((3 + i) * 256) (Ks .u8 256 (rowB f false)).length := by rw [Ks_length]; exact hth
      clear ST st5 hth hset hrow d3 d8 hb5
      go_wp2_with (first | (refine wp_storeMid rfl 32 (.tmp 46) (.tmp 45) rfl q ((3 + i) * 256) (Ks .u8 256 (rowB f false)) rfl rfl hthD (by rw [Ks_length]; exact info_block) (Ks_oneL _ _ _) ?_))
      intro w6 hw6
      rw [← hw6.out] at STN
      clear hw6 hthD
      go_wp2_with fail
      go_roundw
      case rel => first | exact ⟨i + 1, by first | rfl | go_num, by omega, STN.out⟩ | ((repeat apply Exists.intro); exact ⟨⟨i + 1, by first | rfl | go_num, by omega, STN.out⟩, rfl⟩)
      case measure => simp [intOf]; omega
    · obtain rfl : i = j - 1 := by omega
      have l2 : ¬ ((j - 1 : Nat) : Int) < (j : Int) - 1 := by have := HJ.out; omega
      have ST := Lib.hid st
      clear st
      have hh := jc_head ST.out.x
      by_cases l1 : ((j - 1 : Nat) : Int) < 255
      · go_wp2_with (first | (refine wp_loadMid rfl 36 (.tmp 49) rfl w.heap.size 4 [.int .u32 s, .int .i64 t] _ rfl hh Tryd.underlying36 rfl (by kernel_rfl) ?_))
        refine (rWriteHead_any s t wr hs ht).mono ?_
        rintro e w5 ⟨rfl, hb5⟩
        have st5 := ST.out.below hb5
        have h2N : 2 < N := by have := HJ.out; omega
        have h2i : (2 : Int) < (N : Int) := by omega
        have hth := st5.a.there h2N
        have hset := Lib.hid (st5.a.set h2N (vs := Ks .u8 256 (headZ s t)) (by simp [Ks]) (bkF_len _))
        have STN : Hid (Im18 w G S I (j : Int) s t (some ⟨b, off, none⟩) oc q N (imF f j s t) (w5.setCells q (2 * 256) (Ks .u8 256 (headZ s t)))) := by
          have ho := hset.out.2
          have hq := HQ.out
          refine ⟨st5.x.only ho (by omega), hset.out.1.congr fun c hc => ?_, st5.bel.trans (ho.below (by omega))⟩
          unfold bkF imF
          by_cases e : c = 2
          · rw [if_pos e, if_pos e]
          · rw [if_neg e, if_neg e]
        have hthD : w5.there q (2 * 256) (Ks .u8 256 (headZ s t)).length := by rw [Ks_length]; exact hth
        clear ST st5 hth hset hb5 d3 d8 hh
        go_wp2_with (first | (refine wp_storeMid rfl 32 (.tmp 54) (.tmp 52) rfl q (2 * 256) (Ks .u8 256 (headZ s t)) rfl rfl hthD (by rw [Ks_length]; exact info_block) (Ks_oneL _ _ _) ?_))
        intro w6 hw6
        rw [← hw6.out] at STN
        clear hw6 hthD
        have d5 : w6.cell? ⟨w.heap.size, 5, none⟩ = some (.int .i64 t) := STN.out.x.cell (i := 5) rfl
        have d6 : w6.cell? ⟨w.heap.size, 6, none⟩ = some (.slice none 0 0) := STN.out.x.cell (i := 6) rfl
        have d7 : w6.cell? ⟨w.heap.size, 7, none⟩ = some (.slice none 0 0) := STN.out.x.cell (i := 7) rfl
        go_wp2_with fail
        go_loopw [6] (fun v wr => v = .int .i64 0 ∧ wr = w6) (fun _ _ => 0)
        case atStart => exact ⟨rfl, rfl⟩
        case round =>
          obtain ⟨rfl, hwr⟩ := hrel
          have hwr2 := hwr.symm
          subst hwr2
          go_wp2_with fail
          go_loopw [11] (fun v wr => v = .int .i64 0 ∧ wr = w6) (fun _ _ => 0)
          case atStart => exact ⟨rfl, rfl⟩
          case round =>
            obtain ⟨rfl, hwr⟩ := hrel
            have hwr2 := hwr.symm
            subst hwr2
            go_wp2_with fail
            go_ret
            exact ⟨q, N, HN.out.symm, rfl, by have := HQ.out; omega, STN.out.a, STN.out.bel⟩
      · go_wp2_with (first | (refine wp_loadMid rfl 36 (.tmp 49) rfl w.heap.size 4 [.int .u32 s, .int .i64 t] _ rfl hh Tryd.underlying36 rfl (by kernel_rfl) ?_))
        refine (rWriteHead_any s t wr hs ht).mono ?_
        rintro e w5 ⟨rfl, hb5⟩
        have st5 := ST.out.below hb5
        have h2N : 2 < N := by have := HJ.out; omega
        have h2i : (2 : Int) < (N : Int) := by omega
        have hth := st5.a.there h2N
        have hset := Lib.hid (st5.a.set h2N (vs := Ks .u8 256 (headZ s t)) (by simp [Ks]) (bkF_len _))
        have STN : Hid (Im18 w G S I (j : Int) s t (some ⟨b, off, none⟩) oc q N (imF f j s t) (w5.setCells q (2 * 256) (Ks .u8 256 (headZ s t)))) := by
          have ho := hset.out.2
          have hq := HQ.out
          refine ⟨st5.x.only ho (by omega), hset.out.1.congr fun c hc => ?_, st5.bel.trans (ho.below (by omega))⟩
          unfold bkF imF
          by_cases e : c = 2
          · rw [if_pos e, if_pos e]
          · rw [if_neg e, if_neg e]
        have hthD : w5.there q (2 * 256) (Ks .u8 256 (headZ s t)).length := by rw [Ks_length]; exact hth
        clear ST st5 hth hset hb5 d3 d8 hh
        go_wp2_with (first | (refine wp_storeMid rfl 32 (.tmp 54) (.tmp 52) rfl q (2 * 256) (Ks .u8 256 (headZ s t)) rfl rfl hthD (by rw [Ks_length]; exact info_block) (Ks_oneL _ _ _) ?_))
        intro w6 hw6
        rw [← hw6.out] at STN
        clear hw6 hthD
        have d5 : w6.cell? ⟨w.heap.size, 5, none⟩ = some (.int .i64 t) := STN.out.x.cell (i := 5) rfl
        have d6 : w6.cell? ⟨w.heap.size, 6, none⟩ = some (.slice none 0 0) := STN.out.x.cell (i := 6) rfl
        have d7 : w6.cell? ⟨w.heap.size, 7, none⟩ = some (.slice none 0 0) := STN.out.x.cell (i := 7) rfl
        go_wp2_with fail
        go_loopw [6] (fun v wr => v = .int .i64 0 ∧ wr = w6) (fun _ _ => 0)
        case atStart => exact ⟨rfl, rfl⟩
        case round =>
          obtain ⟨rfl, hwr⟩ := hrel
          have hwr2 := hwr.symm
          subst hwr2
          go_wp2_with fail
          go_loopw [11] (fun v wr => v = .int .i64 0 ∧ wr = w6) (fun _ _ => 0)
          case atStart => exact ⟨rfl, rfl⟩
          case round =>
            obtain ⟨rfl, hwr⟩ := hrel
            have hwr2 := hwr.symm
            subst hwr2
            go_wp2_with fail
            go_ret
            exact ⟨q, N, HN.out.symm, rfl, by have := HQ.out; omega, STN.out.a, STN.out.bel⟩
end Go.Proofs.YtnbmmhoofilmfaaDoor
