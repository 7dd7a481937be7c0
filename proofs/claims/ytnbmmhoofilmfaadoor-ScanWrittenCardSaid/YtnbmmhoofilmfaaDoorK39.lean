/- Texts of this claim, merged by a program (a claim may have 60 files): Pk18. -/
import Derived.Test.YtnbmmhoofilmfaaDoorK36
import Derived.Test.YtnbmmhoofilmfaaDoorK37
import Derived.Test.YtnbmmhoofilmfaaDoorK38
/- quernref15.Pack. -/
namespace Go.Proofs.YtnbmmhoofilmfaaDoor
open Go.RowKit
set_option linter.unusedVariables false

/-- what the reference keeps while it packs -/
structure RpS (w : World) (t : Tr) (ca : Option Addr) (cc : Nat) (ra : Option Addr) (rc : Nat) (la : Option Addr) (cnt lc : Nat) (W : World) : Prop where
  x : At W w.heap.size 51 (tcells t.s ca t.n cc ra t.m rc)
  c : RRow W ca 257 t.n (cpF t.cb t.cd)
  r : RRow W ra 1 t.m (inF t.rv)
  l : RMine W (w.heap.size + 1) 32 256 (.slice la cnt lc) cnt (bkF (pk0 t))
  bel : Below w.heap.size w W
section
variable {w : World} {t : Tr} {ca : Option Addr} {cc : Nat} {ra : Option Addr} {rc : Nat} {la : Option Addr} {cnt lc : Nat} {W W' : World}
theorem RpS.below (h : RpS w t ca cc ra rc la cnt lc W) (hb : Below W.heap.size W W') : RpS w t ca cc ra rc la cnt lc W' :=
  ⟨h.x.below hb h.x.lt, h.c.below (by intro e; cases e) hb, h.r.below (by intro e; cases e) hb, RMine.below h.l hb, h.bel.trans (hb.mono h.bel.size)⟩
theorem RpS.grown (h : RpS w t ca cc ra rc la cnt lc W) {row : Option Nat} (hg : W.grownBy W' row) (hrow : ∀ q, row = some q → w.heap.size < q) (hl : (Value.slice la cnt lc).ownBlock = none ∨ (Value.slice la cnt lc).ownBlock ≠ row)
    (hca : ∀ b off, ca = some ⟨b, off, none⟩ → b < w.heap.size) (hra : ∀ b off, ra = some ⟨b, off, none⟩ → b < w.heap.size) : RpS w t ca cc ra rc la cnt lc W' :=
  ⟨AtGrown h.x hg (fun e => by have := hrow _ e; omega), RRowG h.c hg (fun b off e _ => ⟨by have := hca b off e; have := h.bel.size; omega, fun e2 => by have := hrow _ e2; have := hca b off e; omega⟩), RRowG h.r hg (fun b off e _ => ⟨by have := hra b off e; have := h.bel.size; omega, fun e2 => by have := hrow _ e2; have := hra b off e; omega⟩), World.ownsRow.kept h.l hg hl, h.bel.grown hg h.bel.size (fun q e => by have := hrow q e; omega)⟩
/-- an append to its own row -/
theorem RpS.app (h : RpS w t ca cc ra rc la cnt lc W) {la' : Option Addr} {cnt' lc' : Nat} (hg : W.grownBy W' (Value.slice la cnt lc).ownBlock) (hl : RMine W' (w.heap.size + 1) 32 256 (.slice la' cnt' lc') cnt' (bkF (pk0 t)))
    (hca : ∀ b off, ca = some ⟨b, off, none⟩ → b < w.heap.size) (hra : ∀ b off, ra = some ⟨b, off, none⟩ → b < w.heap.size) : RpS w t ca cc ra rc la' cnt' lc' W' := by
  have hrow : ∀ q, (Value.slice la cnt lc).ownBlock = some q → w.heap.size < q := fun q hq => by have := (World.ownsRow.lt h.l q hq).1; omega
  exact ⟨AtGrown h.x hg (fun e => by have := hrow _ e; omega), RRowG h.c hg (fun b off e _ => ⟨by have := hca b off e; have := h.bel.size; omega, fun e2 => by have := hrow _ e2; have := hca b off e; omega⟩), RRowG h.r hg (fun b off e _ => ⟨by have := hra b off e; have := h.bel.size; omega, fun e2 => by have := hrow _ e2; have := hra b off e; omega⟩), hl, h.bel.grown hg h.bel.size (fun q e => by have := hrow q e; omega)⟩
theorem own_block_ne {base base' k k' size size' : Nat} {e e' : TypeId} {v v' : Value} {xs xs' : List Value} (h : W.ownsRow base e size v k xs) (h' : W.ownsRow base' e' size' v' k' xs') (he : e ≠ e') : v.ownBlock = none ∨ v.ownBlock ≠ v'.ownBlock := by
  cases h1 : v.ownBlock with
  | none => exact .inl rfl
  | some g => exact .inr (fun e2 => own_ne h h' he h1 e2.symm)
end
theorem RMine.snoc {W : World} {base : Nat} {e : TypeId} {m : Nat} {v : Value} {n : Nat} {f : Nat → List Value} {news : List Value} (h : W.ownsRow base e m v (n + 1) (Cs f n ++ news)) (hk : news = f n) : RMine W base e m v (n + 1) f := by
  subst hk; exact h
def tagF (tb : Nat → Int) (te : Nat → Bool) (i : Nat) : List Value := tgL (tb i) (te i)
def numF (m : Nat → Int) (i : Nat) : List Value := [.int .u32 (m i)]
theorem tagF_len (tb : Nat → Int) (te : Nat → Bool) (i : Nat) : (tagF tb te i).length = 2 := rfl
theorem numF_len (m : Nat → Int) (i : Nat) : (numF m i).length = 1 := rfl
theorem tagRow_of {W : World} {a : Option Addr} {n : Nat} {tb : Nat → Int} {te : Nat → Bool} (h : RRow W a 2 n (tagF tb te)) : TagRow W a n tb te := by
  rcases h with h | ⟨b, off, e, h⟩
  · exact .inl h
  · exact .inr ⟨b, off, e, fun i hi => ⟨h i hi 0 _ rfl, h i hi 1 _ rfl⟩⟩
theorem numRow_of {W : World} {a : Option Addr} {n : Nat} {m : Nat → Int} (h : RRow W a 1 n (numF m)) : NumRow W a n m := by
  rcases h with h | ⟨b, off, e, h⟩
  · exact .inl h
  · exact .inr ⟨b, off, e, fun i hi => by have := h i hi 0 _ rfl; rwa [Nat.mul_one, Nat.add_zero] at this⟩
theorem RRow.dat257 {W : World} {b off n : Nat} {cb : Nat → Int} {cd : Nat → Nat → Int} {k : Nat} (h : RRow W (some ⟨b, off, none⟩) 257 n (cpF cb cd)) (hk : k < n) : W.rangeAt b (off + k * 257 + 1) (Ks .u8 256 (cd k)) := fun j v hj => by
  rcases h with h | ⟨b', off', e, h⟩
  · omega
  · injection e with e; injection e with e1 e2; subst e1 e2
    have := h k hk (1 + j) v (by rw [Nat.add_comm]; exact hj)
    rwa [← Nat.add_assoc] at this
/-- while a row of copies is gone over -/
structure RpT (w : World) (t : Tr) (ca : Option Addr) (cc : Nat) (ra : Option Addr) (rc : Nat) (la : Option Addr) (cnt lc r hs j : Nat) (ga : Option Addr) (gc : Nat) (pa : Option Addr) (pc : Nat) (W : World) : Prop where
  s : RpS w t ca cc ra rc la cnt lc W
  g : RMine W (w.heap.size + 1) 169 2 (.slice ga j gc) j (tagF (fun i => t.cb (30 * r + i)) fun i => escB (t.cd (30 * r + i)))
  d : RMine W hs 32 256 (.slice pa j pc) j (bkF fun i => escZ (t.cd (30 * r + i)))
theorem RpT.below {w : World} {t : Tr} {ca : Option Addr} {cc : Nat} {ra : Option Addr} {rc : Nat} {la : Option Addr} {cnt lc r hs j : Nat} {ga : Option Addr} {gc : Nat} {pa : Option Addr} {pc : Nat} {W W' : World} (h : RpT w t ca cc ra rc la cnt lc r hs j ga gc pa pc W) (hb : Below W.heap.size W W') : RpT w t ca cc ra rc la cnt lc r hs j ga gc pa pc W' :=
  ⟨h.s.below hb, RMine.below h.g hb, RMine.below h.d hb⟩
/-- while a row of numbers is gone over -/
structure RpN (w : World) (t : Tr) (ca : Option Addr) (cc : Nat) (ra : Option Addr) (rc : Nat) (la : Option Addr) (cnt lc r j : Nat) (ga : Option Addr) (gc : Nat) (W : World) : Prop where
  s : RpS w t ca cc ra rc la cnt lc W
  g : RMine W (w.heap.size + 1) 34 1 (.slice ga j gc) j (numF fun i => t.rv (60 * r + i))
theorem RpN.below {w : World} {t : Tr} {ca : Option Addr} {cc : Nat} {ra : Option Addr} {rc : Nat} {la : Option Addr} {cnt lc r j : Nat} {ga : Option Addr} {gc : Nat} {W W' : World} (h : RpN w t ca cc ra rc la cnt lc r j ga gc W) (hb : Below W.heap.size W W') : RpN w t ca cc ra rc la cnt lc r j ga gc W' :=
  ⟨h.s.below hb, RMine.below h.g hb⟩
/-- while all bytes are gathered -/
structure RpU (w : World) (t : Tr) (ca : Option Addr) (cc : Nat) (ra : Option Addr) (rc : Nat) (la : Option Addr) (cnt lc k : Nat) (aa : Option Addr) (ac : Nat) (W : World) : Prop where
  s : RpS w t ca cc ra rc la cnt lc W
  a : W.ownsRow (w.heap.size + 1) 5 1 (.slice aa (k * 256) ac) (k * 256) (Cs (bkF (pk0 t)) k)
theorem RpU.below {w : World} {t : Tr} {ca : Option Addr} {cc : Nat} {ra : Option Addr} {rc : Nat} {la : Option Addr} {cnt lc k : Nat} {aa : Option Addr} {ac : Nat} {W W' : World} (h : RpU w t ca cc ra rc la cnt lc k aa ac W) (hb : Below W.heap.size W W') : RpU w t ca cc ra rc la cnt lc k aa ac W' :=
  ⟨h.s.below hb, own_below' h.a hb⟩
structure RpV (w : World) (t : Tr) (ca : Option Addr) (cc : Nat) (ra : Option Addr) (rc : Nat) (la : Option Addr) (cnt lc k : Nat) (aa : Option Addr) (ac : Nat) (base : Nat) (W : World) : Prop where
  u : RpU w t ca cc ra rc la cnt lc k aa ac W
  sz : base ≤ W.heap.size
  hca : ∀ b off, ca = some ⟨b, off, none⟩ → b < w.heap.size
  hra : ∀ b off, ra = some ⟨b, off, none⟩ → b < w.heap.size
  hx : w.heap.size < base
  hl : ∀ q, (Value.slice la cnt lc).ownBlock = some q → q < base
  ha : ∀ q, (Value.slice aa (k * 256) ac).ownBlock = some q → q < base
theorem RpV.below {w : World} {t : Tr} {ca : Option Addr} {cc : Nat} {ra : Option Addr} {rc : Nat} {la : Option Addr} {cnt lc k : Nat} {aa : Option Addr} {ac base : Nat} {W W' : World} (h : RpV w t ca cc ra rc la cnt lc k aa ac base W) (hb : Below W.heap.size W W') : RpV w t ca cc ra rc la cnt lc k aa ac base W' :=
  ⟨h.u.below hb, by have := hb.size; have := h.sz; omega, h.hca, h.hra, h.hx, h.hl, h.ha⟩
theorem RpV.only {w : World} {t : Tr} {ca : Option Addr} {cc : Nat} {ra : Option Addr} {rc : Nat} {la : Option Addr} {cnt lc k : Nat} {aa : Option Addr} {ac base : Nat} {W W' : World} {p : Nat} (h : RpV w t ca cc ra rc la cnt lc k aa ac base W) (hp : base ≤ p) (ho : Only p W W') : RpV w t ca cc ra rc la cnt lc k aa ac base W' := by
  have hx := h.hx
  exact ⟨⟨⟨h.u.s.x.only ho (by omega), RRowO h.u.s.c ho (fun b off e _ => by have := h.hca b off e; omega), RRowO h.u.s.r ho (fun b off e _ => by have := h.hra b off e; omega), own_only h.u.s.l ho (fun e => by have := h.hl _ e; omega), h.u.s.bel.trans (ho.below (by omega))⟩, own_only h.u.a ho (fun e => by have := h.ha _ e; omega)⟩,
    by have := ho.size; have := h.sz; omega, h.hca, h.hra, h.hx, h.hl, h.ha⟩
theorem row_of_flat {W : World} {base : Nat} {e : TypeId} {a : Option Addr} {k c : Nat} {B : Nat → Nat → Int} (h : W.ownsRow base e 1 (.slice a (k * 256) c) (k * 256) (Cs (bkF B) k)) : Row W a (k * 256) (flat B) := by
  rcases h.2 with ⟨_, h0⟩ | ⟨g, cap', cur, hv, hb, hg, hn, hc, hs, ht⟩
  · exact .inl h0
  · injection hv with h1 h2 h3
    subst h1
    refine .inr ⟨g, 0, rfl, fun i hi => ?_⟩
    have hj : (Cs (bkF B) k)[i]? = some (.int .u8 (flat B i)) := by rw [← Ks_flat]; exact Ks_get _ _ _ _ hi
    rw [← ht] at hj
    rw [List.getElem?_take_of_lt (by omega)] at hj
    rw [Nat.zero_add]
    exact cell_of_heap hg (by simpa using hj)
/-- what the reference's Pack answers -/
def RPackPost (w : World) (t : Tr) (e : Ending) (w' : World) : Prop :=
  (packE t ≠ 0 ∧ e = .returned (.tuple #[.slice none 0 0, .int .i64 (packE t)])) ∨ (packE t = 0 ∧ ∃ q cap, e = .returned (.tuple #[.slice (some ⟨q, 0, none⟩) (t.c + 1) cap, .int .i64 0]) ∧ RMine w' (w.heap.size + 1) 32 256 (.slice (some ⟨q, 0, none⟩) (t.c + 1) cap) (t.c + 1) (bkF (pkB t)))

set_option maxRecDepth 100000 in
set_option maxHeartbeats 8000000 in
theorem rPack_any (t : Tr) (ht : t.Ok) (ca : Option Addr) (cc : Nat) (ra : Option Addr) (rc : Nat) (w : World) (hc : RRow w ca 257 t.n (cpF t.cb t.cd)) (hr : RRow w ra 1 t.m (inF t.rv))
    (hca : ∀ b off, ca = some ⟨b, off, none⟩ → b < w.heap.size) (hra : ∀ b off, ra = some ⟨b, off, none⟩ → b < w.heap.size) :
    Calls Tryd.prog 61 #[tval t.s ca t.n cc ra t.m rc] w fun e w' => RPackPost w t e w' ∧ Below w.heap.size w w' := by
  have st0 : Hid (RpS w t ca cc ra rc none 0 0 (w.alloc (.cells (tcells t.s ca t.n cc ra t.m rc) 51))) := ⟨At.new w _ _, hc.alloc _, hr.alloc _, RMine.nil _ _ _ _ _, (Below.refl _ _).alloc (Nat.le_refl _) _⟩
  have hx0 := st0.out.x
  have HOK := Lib.hid ht
  have HCA : Hid (∀ b off, ca = some ⟨b, off, none⟩ → b < w.heap.size) := hca
  have HRA : Hid (∀ b off, ra = some ⟨b, off, none⟩ → b < w.heap.size) := hra
  have hnn := ht.n
  have hmm := ht.m
  have hal := zero_block
  clear hc hr hca hra ht
  go_enter Tryd.func61, Tryd.ntmps61
  go_wp2_with (first | (refine wp_loadAtG rfl 51 (.tmp 1) rfl _ _ _ rfl hx0 Tryd.underlying51 rfl (info_trans _ _ _ _ _ _ _) ?_))
  refine (rMay15_any t.s ca t.n cc ra t.m rc t.cb t.cd t.rv HOK.out.s hnn hmm _ st0.out.c st0.out.r).mono ?_
  rintro e w1 ⟨rfl, hb1⟩
  have st1 := Lib.hid (st0.out.below hb1)
  clear hb1 hx0 st0
  cases hmay : mayT t.s t.n t.cb t.m t.rv with
  | false =>
    have HE : Hid (packE t = 150) := by show _ = _; unfold packE Tr.may; rw [hmay]; rfl
    clear hmay
    go_wp2_with fail
    go_ret2
    exact ⟨.inl ⟨by rw [HE.out]; decide, by rw [HE.out]; rfl⟩, st1.out.bel⟩
  | true =>
  have HMAY : Hid (t.may = true) := hmay
  obtain ⟨hq1, hq2, hq3, hq4⟩ := t.may_iff.1 hmay
  have hn48 := riseT_len hq3
  have hm48 := riseT_len hq4
  have HWC := Lib.hid (wds_of hq3 HOK.out.cb0)
  have HWR := Lib.hid (wds_of hq4 HOK.out.rv0)
  have HSZ : Hid (t.size = ((t.c + 1 : Nat) : Int)) := by show _ = _; rw [size_c hmay]; omega
  have hsz : sizeOf (t.n : Int) (t.m : Int) = ((t.c + 1 : Nat) : Int) := HSZ.out
  have c1 : w1.cell? ⟨w.heap.size, 1, none⟩ = some (.slice ca t.n cc) := st1.out.x.cell (i := 1) rfl
  have c2 : w1.cell? ⟨w.heap.size, 2, none⟩ = some (.slice ra t.m rc) := st1.out.x.cell (i := 2) rfl
  clear hmay hq1 hq2 hq3 hq4
  have hszN : Hid (sizeOf (t.n : Int) (t.m : Int) = ((t.c + 1 : Nat) : Int)) := hsz
  clear hsz
  go_wp2_with fail
  refine (refSize_any (t.n : Int) (t.m : Int) w1).mono ?_
  rintro e w2 ⟨rfl, hw⟩
  obtain rfl : w1 = w2 := hw
  rw [hszN.out]
  obtain ⟨C, hC⟩ : ∃ C, C = t.c := ⟨_, rfl⟩
  rw [← hC]
  by_cases hbig : 255 < C + 1
  · have HE : Hid (packE t = 4) := by show _ = _; unfold packE; rw [HMAY.out, HSZ.out, if_pos rfl, if_neg (by omega)]
    have hb' : (255 : Int) < ((C + 1 : Nat) : Int) := by omega
    clear hC
    go_wp2_with fail
    go_ret2
    exact ⟨.inl ⟨by rw [HE.out]; decide, by rw [HE.out]; rfl⟩, st1.out.bel⟩
  have hb' : ¬ (255 : Int) < ((C + 1 : Nat) : Int) := by omega
  have HE : Hid (packE t = 0) := by show _ = _; unfold packE; rw [HMAY.out, HSZ.out, if_pos rfl, if_pos (by omega)]
  have HC := Lib.hid hC
  clear hC
  have hcs : C ≤ 254 := by omega
  obtain ⟨i0, hi0, hz⟩ := Option.map_eq_some_iff.1 info_blk3
  simp only [Prod.mk.injEq] at hz
  obtain ⟨hz0, hz1, hz2⟩ := hz
  obtain ⟨i1, hi1, hy0, hy1, hy2⟩ := info_parts info_tag'
  clear c1 c2 hszN
  go_wp2_with fail
  go_loopw [4, 5, 6, 7, 8, 9, 10, 11, 12] (fun u i _ _ _ _ _ _ _ wr => ∃ (r : Nat) (la : Option Addr) (lc : Nat), u = .slice la (cntC t.n r) lc ∧ i = .int .i64 ((30 * r : Nat) : Int) ∧ r ≤ (t.n + 29) / 30 ∧ RpS w t ca cc ra rc la (cntC t.n r) lc wr) (fun _ i _ _ _ _ _ _ _ _ => t.n + 30 - (intOf i).toNat)
  case atStart => exact ⟨0, none, 0, by rw [cntC_zero], rfl, Nat.zero_le _, by rw [cntC_zero]; exact st1.out⟩
  case round =>
    clear st1
    obtain ⟨r, la, lc, rfl, rfl, hr, st⟩ := hrel
    have c1 : wr.cell? ⟨w.heap.size, 1, none⟩ = some (.slice ca t.n cc) := st.x.cell (i := 1) rfl
    by_cases hlt : r < (t.n + 29) / 30
    · obtain ⟨e1, e2⟩ := cntC_row hlt
      obtain ⟨kk, hkk⟩ : ∃ kk, kk = min 30 (t.n - 30 * r) := ⟨_, rfl⟩
      have hk1 : 1 ≤ kk := by omega
      have hk2 : kk ≤ 30 := by omega
      have hk3 : 30 * r + kk ≤ t.n := by omega
      have hk4 : kk < 30 → 30 * r + kk = t.n := by omega
      have hi1' : ((30 * r : Nat) : Int) < (t.n : Int) := by omega
      have HE1 := Lib.hid e1
      have HE2 := Lib.hid e2
      have HKK := Lib.hid hkk
      obtain ⟨N, hN⟩ : ∃ N, N = cntC t.n r := ⟨_, rfl⟩
      obtain ⟨R, hR⟩ : ∃ R, R = 30 * r := ⟨_, rfl⟩
      have HR := Lib.hid hR
      have HN := Lib.hid hN
      rw [← hR] at hk3 hk4 hi1'
      rw [← hN] at st
      rw [← hN, ← hR]
      have hN254 : N ≤ 254 := by
        have := HC.out
        unfold Tr.c at this
        have hd := cntC_end t.n
        have : cntC t.n r ≤ dN t.n := by unfold dN; unfold dN at hd; omega
        omega
      have w30 : IntKind.i64.wrap ((R : Int) + 30) = (R : Int) + 30 := IntWalk.i64_in _ (by omega)
      have hsw := st.bel.size
      have hsx := st.x.lt
      have hlq : ∀ q, (Value.slice la N lc).ownBlock = some q → q < wr.heap.size := fun q hq => (World.ownsRow.lt st.l q hq).2
      have HLQ : Hid (∀ q, (Value.slice la N lc).ownBlock = some q → q < wr.heap.size) := hlq
      have stI : Hid (RpT w t ca cc ra rc la N lc r wr.heap.size 0 none 0 none 0 wr) := ⟨st, RMine.nil _ _ _ _ _, RMine.nil _ _ _ _ _⟩
      obtain ⟨hs, hhs⟩ : ∃ hs, hs = wr.heap.size := ⟨_, rfl⟩
      rw [← hhs] at stI hsw hsx HLQ
      have hsr0 : hs ≤ wr.heap.size := by omega
      clear st e1 e2 hkk hN hR hlq hhs
      go_wp2_with fail
      go_loopw [6, 7, 8, 9, 10] (fun g p i _ _ wr => ∃ (j : Nat) (ga : Option Addr) (gc : Nat) (pa : Option Addr) (pc : Nat), g = .slice ga j gc ∧ p = .slice pa j pc ∧ i = .int .i64 ((R + j : Nat) : Int) ∧ j ≤ kk ∧ RpT w t ca cc ra rc la N lc r hs j ga gc pa pc wr ∧ hs ≤ wr.heap.size) (fun _ _ i _ _ _ => R + kk - (intOf i).toNat)
      case atStart => exact ⟨0, none, 0, none, 0, rfl, rfl, rfl, Nat.zero_le _, stI.out, hsr0⟩
      case round =>
        clear stI c1 hsr0
        obtain ⟨j, ga, gc, pa, pc, rfl, rfl, rfl, hj, st, hsr⟩ := hrel
        have c1 : wr.cell? ⟨w.heap.size, 1, none⟩ = some (.slice ca t.n cc) := st.s.x.cell (i := 1) rfl
        by_cases hlt2 : j < kk
        · obtain ⟨I, hI⟩ : ∃ I, I = R + j := ⟨_, rfl⟩
          have hIn : I < t.n := by omega
          have hI1 : (I : Int) < (t.n : Int) := by omega
          have hI2 : (I : Int) < (R : Int) + 30 := by omega
          have hI0 : (0 : Int) ≤ (I : Int) := by omega
          have hIb : I ≤ 2048 := by omega
          have HI := Lib.hid hI
          rw [← hI]
          clear hI
          obtain ⟨b, off, rfl⟩ := st.s.c.some_of (by omega)
          have rg := st.s.c.dat257 hIn
          have hzI := HOK.out.cd I
          go_wp2_with (first | (refine wp_loadMid rfl 32 (.tmp 59) rfl b (off + I * 257 + 1) (Ks .u8 256 (t.cd I)) _ rfl rg Tryd.underlying32 rfl (by rw [Ks_length]; exact info_block) ?_))
          refine (rEscape_any (t.cd I) hzI wr).mono ?_
          rintro e w2 ⟨rfl, hb2⟩
          have st2 := Lib.hid (st.below hb2)
          have hs2 := hb2.size
          have hB2 := Blk.new w2 32 256 (fun _ => 0)
          have hL2 : Below w2.heap.size w2 (w2.alloc (.cells (Ks .u8 256 (fun _ => 0)).toArray 32)) := (Below.refl _ _).alloc (Nat.le_refl _) _
          obtain ⟨y, hy⟩ : ∃ y, y = escZ (t.cd I) := ⟨_, rfl⟩
          obtain ⟨es, hes⟩ : ∃ es, es = escB (t.cd I) := ⟨_, rfl⟩
          have HY := Lib.hid hy
          have HES := Lib.hid hes
          rw [← hy, ← hes]
          clear st hb2 rg hzI hy hes c1
          go_wp2_with (first | (refine wp_storeBlk rfl (.tmp 9) (.tmp 62) rfl w2.heap.size y _ rfl rfl hB2 ?_))
          intro w3 hB3 ho3
          have hL3 := hL2.trans (ho3.below (Nat.le_refl _))
          have st3 := st2.out.below hL3
          have hs3 := hL3.size
          have c1 : w3.cell? ⟨w.heap.size, 1, none⟩ = some (.slice (some ⟨b, off, none⟩) t.n cc) := st3.s.x.cell (i := 1) rfl
          have hcb := st3.s.c.at257 hIn
          have hwb : IntKind.u32.wrap (t.cb I) = t.cb I := by have := HWC.out I; exact IntWalk.u32_in _ (by omega)
          have hbs := run_tag1
          have hown := RMine.alloc st3.g (.cells #[.int .u32 (t.cb I), .bool es] 169)
          have hB4 := hB3.alloc (.cells #[.int .u32 (t.cb I), .bool es] 169)
          have st4 := Lib.hid (st3.below ((Below.refl w3.heap.size w3).alloc (Nat.le_refl _) (.cells #[.int .u32 (t.cb I), .bool es] 169)))
          clear st2 hL2 hL3 ho3 st3 hB2
          go_wp2_with (first | (refine wpList_append_own _ rfl (.tmp 64) (.tmp 74) 165 rfl (w.heap.size + 1) 169 i1 (.agg #[.int .u32 0, .bool false]) 2 8 Tryd.underlying165 hi1 hy0 hy1 hy2 rfl (by decide) (.slice ga j gc) j _ rfl hown ⟨w3.heap.size, 0, none⟩ 1 1 [.int .u32 (t.cb I), .bool es] rfl rfl (tagNews w3 (t.cb I) es) (tagOne (t.cb I) es) (by unfold maxLen; omega) (by omega) (by simp; omega) ?_))
          intro v' w5 ho5 hg5 _
          have hIr : 30 * r + j = I := by have h1 := HI.out; have h2 := HR.out; omega
          have hrow5 : ∀ q, (Value.slice ga j gc).ownBlock = some q → w.heap.size < q := fun q hq => by have := (World.ownsRow.lt hown q hq).1; omega
          have hg5' : RMine w5 (w.heap.size + 1) 169 2 v' (j + 1) (tagF (fun i => t.cb (30 * r + i)) fun i => escB (t.cd (30 * r + i))) := RMine.snoc ho5 (by show _ = [Value.int .u32 (t.cb (30 * r + j)), Value.bool (escB (t.cd (30 * r + j)))]; rw [hIr, HES.out])
          have hs5 := hg5.size
          rw [World.size_alloc] at hs5
          have st5 := st4.out.s.grown hg5 hrow5 (own_block_ne st4.out.s.l hown (by decide)) HCA.out HRA.out
          have hd5 : RMine w5 hs 32 256 (.slice pa j pc) j (bkF fun i => escZ (t.cd (30 * r + i))) := World.ownsRow.kept st4.out.d hg5 (own_block_ne st4.out.d hown (by decide))
          have hB5 : Blk w5 w2.heap.size 32 256 y := AtGrown hB4 hg5 (at_own_ne hB4 hown (by decide))
          obtain ⟨ga', gc', rfl⟩ := hg5'.form
          have HG5 := Lib.hid (RMine.alloc hg5' (.cells (Ks .u8 256 y).toArray 32))
          have st6 := Lib.hid (st5.below ((Below.refl w5.heap.size w5).alloc (Nat.le_refl _) (.cells (Ks .u8 256 y).toArray 32)))
          have hown6 := RMine.alloc hd5 (.cells (Ks .u8 256 y).toArray 32)
          have hnews : ∀ (i : Nat) (u : Value), (Ks .u8 256 y)[i]? = some u → (w5.alloc (.cells (Ks .u8 256 y).toArray 32)).cell? ((⟨w5.heap.size, 0, none⟩ : Addr).add i) = some u := cells_news w5 (Ks .u8 256 y) _
          have hlen : (Ks .u8 256 y).length = 1 * 256 := by simp [Ks]
          clear ho5 hg5 hg5' st4 hown hrow5 st5 hd5 hB4 hB3 hcb hwb hbs c1
          go_wp2_with (first | (refine wp_loadBlkG rfl (.tmp 9) rfl _ _ rfl hB5 ?_) | (refine wpList_slice1 rfl 24 1 0 (.tmp 77) rfl (bval y) rfl _ _ (run_block1 y _) ?_) | (refine wpList_append_own _ rfl (.tmp 76) (.tmp 78) 24 rfl hs 32 i0 (bval fun _ => 0) 256 256 Tryd.underlying24 hi0 hz0 hz1 hz2 (by simp [Value.cells, Ks]) (by decide) (.slice pa j pc) j _ rfl hown6 ⟨w5.heap.size, 0, none⟩ 1 1 (Ks .u8 256 y) rfl hlen hnews (Ks_oneL .u8 256 y) (by unfold maxLen; omega) (by omega) (by simp; omega) ?_))
          intro v' w7 ho7 hg7 _
          have hrow7 : ∀ q, (Value.slice pa j pc).ownBlock = some q → hs ≤ q := fun q hq => (World.ownsRow.lt hown6 q hq).1
          have hd7 : RMine w7 hs 32 256 v' (j + 1) (bkF fun i => escZ (t.cd (30 * r + i))) := RMine.snoc ho7 (by show _ = Ks .u8 256 (escZ (t.cd (30 * r + j))); rw [hIr, HY.out])
          have hs7 := hg7.size
          rw [World.size_alloc] at hs7
          have hlne : (Value.slice la N lc).ownBlock = none ∨ (Value.slice la N lc).ownBlock ≠ (Value.slice pa j pc).ownBlock := by
            cases h1 : (Value.slice la N lc).ownBlock with
            | none => exact .inl rfl
            | some g => exact .inr (fun e2 => by have h3 := hrow7 g e2.symm; have h4 := HLQ.out g h1; omega)
          obtain ⟨pa', pc', rfl⟩ := hd7.form
          have st7 : Hid (RpT w t (some ⟨b, off, none⟩) cc ra rc la N lc r hs (j + 1) ga' gc' pa' pc' w7) := ⟨st6.out.grown hg7 (fun q e => by have := hrow7 q e; omega) hlne HCA.out HRA.out, World.ownsRow.kept HG5.out hg7 (own_block_ne HG5.out hown6 (by decide)), hd7⟩
          have hsr7 : hs ≤ w7.heap.size := by omega
          clear ho7 hg7 hrow7 hd7 hlne st6 hown6 hnews HG5 hB5
          go_wp2_with fail
          have hI9 : R + (j + 1) = I + 1 := by have := HI.out; omega
          go_roundw
          case rel => first | exact ⟨j + 1, ga', gc', pa', pc', rfl, rfl, by rw [hI9]; first | rfl | go_num, by omega, st7.out, hsr7⟩ | ((repeat apply Exists.intro); exact ⟨⟨j + 1, ga', gc', pa', pc', rfl, rfl, by rw [hI9]; first | rfl | go_num, by omega, st7.out, hsr7⟩, rfl⟩)
          case measure => have := HI.out; simp [intOf]; omega
        · obtain rfl : j = kk := by omega
          obtain ⟨I, hI⟩ : ∃ I, I = R + j := ⟨_, rfl⟩
          have hcase : (¬ (I : Int) < (R : Int) + 30) ∨ ((I : Int) < (R : Int) + 30 ∧ ¬ (I : Int) < (t.n : Int)) := by omega
          have hI3 : (I : Int) = (R : Int) + (j : Int) := by omega
          rw [← hI]
          have HI := Lib.hid hI
          have ST := Lib.hid st
          have c0 : wr.cell? ⟨w.heap.size, 0, none⟩ = some (.int .u32 t.s) := st.s.x.cell (i := 0) rfl
          clear hI hI3 st
          rcases hcase with hI1 | ⟨hI1, hI2⟩
          all_goals
            go_wp2_with fail
            refine (rWriteDesc_any t.s ga j gc (fun i => t.cb (30 * r + i)) (fun i => escB (t.cd (30 * r + i))) HOK.out.s (fun i => HWC.out _) (by omega) wr (tagRow_of (RMine.row ST.out.g (tagF_len _ _)))).mono ?_
            rintro e w2 ⟨rfl, hb2⟩
            have st2 := Lib.hid (ST.out.below hb2)
            have hs2 := hb2.size
            have hB2 := Blk.new w2 32 256 (fun _ => 0)
            have hL2 : Below w2.heap.size w2 (w2.alloc (.cells (Ks .u8 256 (fun _ => 0)).toArray 32)) := (Below.refl _ _).alloc (Nat.le_refl _) _
            obtain ⟨y, hy⟩ : ∃ y, y = jdZ t.s j (fun i => t.cb (30 * r + i)) (fun i => escB (t.cd (30 * r + i))) := ⟨_, rfl⟩
            have HY := Lib.hid hy
            rw [← hy]
            clear ST hb2 hy c0 c1
            go_wp2_with (first | (refine wp_storeBlk rfl (.tmp 11) (.tmp 85) rfl w2.heap.size y _ rfl rfl hB2 ?_))
            intro w3 hB3 ho3
            have hL3 := hL2.trans (ho3.below (Nat.le_refl _))
            have hs3 := hL3.size
            have st4 := Lib.hid ((st2.out.below hL3).below ((Below.refl w3.heap.size w3).alloc (Nat.le_refl _) (.cells (Ks .u8 256 y).toArray 32)))
            have hown4 := st4.out.s.l
            have hnews4 : ∀ (i : Nat) (u : Value), (Ks .u8 256 y)[i]? = some u → (w3.alloc (.cells (Ks .u8 256 y).toArray 32)).cell? ((⟨w3.heap.size, 0, none⟩ : Addr).add i) = some u := cells_news w3 (Ks .u8 256 y) _
            have hlen : (Ks .u8 256 y).length = 1 * 256 := by simp [Ks]
            clear st2 hL2 hL3 ho3 hB2
            go_wp2_with (first | (refine wp_loadBlkG rfl (.tmp 11) rfl _ _ rfl hB3 ?_) | (refine wpList_slice1 rfl 24 1 0 (.tmp 88) rfl (bval y) rfl _ _ (run_block1 y _) ?_) | (refine wpList_append_own _ rfl (.tmp 87) (.tmp 89) 24 rfl (w.heap.size + 1) 32 i0 (bval fun _ => 0) 256 256 Tryd.underlying24 hi0 hz0 hz1 hz2 (by simp [Value.cells, Ks]) (by decide) (.slice la N lc) N _ rfl hown4 ⟨w3.heap.size, 0, none⟩ 1 1 (Ks .u8 256 y) rfl hlen hnews4 (Ks_oneL .u8 256 y) (by unfold maxLen; omega) (by omega) (by simp; omega) ?_))
            intro v' w5 ho5 hg5 _
            have hN31 : N = 31 * r := HN.out.trans HE1.out
            have hkr : j = min 30 (t.n - 30 * r) := HKK.out
            have hp0 : jdZ t.s j (fun i => t.cb (30 * r + i)) (fun i => escB (t.cd (30 * r + i))) = pk0 t N := by
              have := pk0_desc (t := t) hlt (i := 31 * r) (by omega)
              rw [if_neg (by omega), if_pos rfl, ← hkr] at this
              rw [this, hN31]
            have hp1 : ∀ i, i < j → escZ (t.cd (30 * r + i)) = pk0 t (N + 1 + i) := fun i hi => by
              have := pk0_desc (t := t) hlt (i := 31 * r + 1 + i) (by omega)
              rw [if_neg (by omega), if_neg (by omega), show 31 * r + 1 + i - 31 * r - 1 = i by omega] at this
              rw [this, hN31]
            have hl5 : RMine w5 (w.heap.size + 1) 32 256 v' (N + 1) (bkF (pk0 t)) := RMine.snoc ho5 (by show _ = Ks .u8 256 (pk0 t N); rw [← hp0, HY.out])
            obtain ⟨la5, lc5, rfl⟩ := hl5.form
            have hrow5 : ∀ q, (Value.slice la N lc).ownBlock = some q → q < hs := HLQ.out
            have hs5 := hg5.size
            rw [World.size_alloc] at hs5
            have st5 := st4.out.s.app hg5 hl5 HCA.out HRA.out
            have hd5 : RMine w5 hs 32 256 (.slice pa j pc) j (bkF fun i => escZ (t.cd (30 * r + i))) := World.ownsRow.kept st4.out.d hg5 (by
              cases h1 : (Value.slice pa j pc).ownBlock with
              | none => exact .inl rfl
              | some g => exact .inr (fun e2 => by have h3 := hrow5 g e2.symm; have h4 := (World.ownsRow.lt st4.out.d g h1).1; omega))
            obtain ⟨pg, pcap, hpv, hpg1, hpg2, hpg3, hpg4⟩ := hd5.form' (by omega)
            injection hpv with hpv1 hpv2 hpv3
            subst hpv1
            have hown5 := st5.l
            have hnews5 := row_news15 (m := 256) (by omega) (bkF_len _) (RMine.row hd5 (bkF_len _))
            have hlen5 : (Cs (bkF fun i => escZ (t.cd (30 * r + i))) j).length = j * 256 := Cs_length (bkF_len _) _
            have hone5 : ∀ u ∈ Cs (bkF fun i => escZ (t.cd (30 * r + i))) j, u.oneCell' = true := Cs_one (bkF_one _) _
            have ST5 := Lib.hid st5
            have HP1 := Lib.hid hp1
            clear ho5 hg5 hrow5 hl5 st4 hown4 hnews4 hlen hB3 hp0 hp1 st5 hd5 hN31 hkr
            go_wp2_with (first | (refine wpList_append_own _ rfl (.tmp 91) (.tmp 92) 24 rfl (w.heap.size + 1) 32 i0 (bval fun _ => 0) 256 256 Tryd.underlying24 hi0 hz0 hz1 hz2 (by simp [Value.cells, Ks]) (by decide) (.slice la5 (N + 1) lc5) (N + 1) _ rfl hown5 ⟨pg, 0, none⟩ j pc _ rfl hlen5 hnews5 hone5 (by unfold maxLen; omega) (by omega) (by omega) ?_))
            intro v' w6 ho6 hg6 _
            have hl6 : RMine w6 (w.heap.size + 1) 32 256 v' (N + 1 + j) (bkF (pk0 t)) := RMine.append ho6 (Cs_congr fun i hi => congrArg (Ks .u8 256) (HP1.out i hi))
            obtain ⟨la6, lc6, rfl⟩ := hl6.form
            have st6 := ST5.out.app hg6 hl6 HCA.out HRA.out
            have hN' : N + 1 + j = cntC t.n (r + 1) := by have h1 := HN.out; have h2 := HE1.out; have h3 := HE2.out; have h4 := HKK.out; omega
            have hR' : 30 * (r + 1) = R + 30 := by have := HR.out; omega
            rw [hN'] at st6
            rw [hN']
            have ST6 := Lib.hid st6
            have HR' := Lib.hid hR'
            clear ho6 hg6 hl6 ST5 hown5 hnews5 hlen5 hone5 st6 hN' hR'
            go_wp2_with fail
            go_roundw
            case rel => first | exact ⟨r + 1, la6, lc6, rfl, by rw [HR'.out]; first | rfl | go_num, by omega, ST6.out⟩ | ((repeat apply Exists.intro); exact ⟨⟨r + 1, la6, lc6, rfl, by rw [HR'.out]; first | rfl | go_num, by omega, ST6.out⟩, rfl⟩)
            case measure => have := HR.out; simp [intOf]; omega
    · obtain rfl : r = (t.n + 29) / 30 := by omega
      have hRn : ¬ ((30 * ((t.n + 29) / 30) : Nat) : Int) < (t.n : Int) := by omega
      obtain ⟨R, hR⟩ : ∃ R, R = 30 * ((t.n + 29) / 30) := ⟨_, rfl⟩
      rw [cntC_end] at st
      rw [cntC_end]
      rw [← hR] at hRn
      rw [← hR]
      have ST := Lib.hid st
      have hdN : dN t.n ≤ C := by have := HC.out; unfold Tr.c at this; omega
      clear st hR hlt hr
      obtain ⟨i2, hi2, hx0, hx1, hx2⟩ := info_parts info_u32
      go_wp2_with fail
      go_loopw [4, 13, 14, 15, 16, 17] (fun u i _ _ _ _ wr => ∃ (r : Nat) (la : Option Addr) (lc : Nat), u = .slice la (dN t.n + r) lc ∧ i = .int .i64 ((60 * r : Nat) : Int) ∧ r ≤ rN t.m ∧ RpS w t ca cc ra rc la (dN t.n + r) lc wr) (fun _ i _ _ _ _ _ => t.m + 60 - (intOf i).toNat)
      case atStart => exact ⟨0, la, lc, rfl, rfl, Nat.zero_le _, ST.out⟩
      case round =>
        clear ST c1
        obtain ⟨r, la, lc, rfl, rfl, hr, st⟩ := hrel
        have c2 : wr.cell? ⟨w.heap.size, 2, none⟩ = some (.slice ra t.m rc) := st.x.cell (i := 2) rfl
        have hCC : dN t.n + rN t.m = C := by rw [HC.out]; rfl
        by_cases hlt : r < rN t.m
        · have hrm : r < (t.m + 59) / 60 := hlt
          obtain ⟨kk, hkk⟩ : ∃ kk, kk = min 60 (t.m - 60 * r) := ⟨_, rfl⟩
          have hk1 : 1 ≤ kk := by omega
          have hk2 : kk ≤ 60 := by omega
          have hk3 : 60 * r + kk ≤ t.m := by omega
          have hk4 : kk < 60 → 60 * r + kk = t.m := by omega
          have hi1' : ((60 * r : Nat) : Int) < (t.m : Int) := by omega
          have HKK := Lib.hid hkk
          obtain ⟨N, hN⟩ : ∃ N, N = dN t.n + r := ⟨_, rfl⟩
          obtain ⟨R, hR⟩ : ∃ R, R = 60 * r := ⟨_, rfl⟩
          have hN254 : N ≤ 254 := by omega
          have HR := Lib.hid hR
          have HN := Lib.hid hN
          rw [← hR] at hk3 hk4 hi1'
          rw [← hN] at st
          rw [← hN, ← hR]
          have w60 : IntKind.i64.wrap ((R : Int) + 60) = (R : Int) + 60 := IntWalk.i64_in _ (by omega)
          have stI : Hid (RpN w t ca cc ra rc la N lc r 0 none 0 wr) := ⟨st, RMine.nil _ _ _ _ _⟩
          clear st hkk hN hR hCC
          go_wp2_with fail
          go_loopw [14, 15] (fun g i wr => ∃ (j : Nat) (ga : Option Addr) (gc : Nat), g = .slice ga j gc ∧ i = .int .i64 ((R + j : Nat) : Int) ∧ j ≤ kk ∧ RpN w t ca cc ra rc la N lc r j ga gc wr) (fun _ i _ => R + kk - (intOf i).toNat)
          case atStart => exact ⟨0, none, 0, rfl, rfl, Nat.zero_le _, stI.out⟩
          case round =>
            clear stI c2
            obtain ⟨j, ga, gc, rfl, rfl, hj, st⟩ := hrel
            have c2 : wr.cell? ⟨w.heap.size, 2, none⟩ = some (.slice ra t.m rc) := st.s.x.cell (i := 2) rfl
            by_cases hlt2 : j < kk
            · obtain ⟨I, hI⟩ : ∃ I, I = R + j := ⟨_, rfl⟩
              have hIn : I < t.m := by omega
              have hI1 : (I : Int) < (t.m : Int) := by omega
              have hI2 : (I : Int) < (R : Int) + 60 := by omega
              have hI0 : (0 : Int) ≤ (I : Int) := by omega
              have hIb : I ≤ 2048 := by omega
              have HI := Lib.hid hI
              rw [← hI]
              clear hI
              obtain ⟨b, off, rfl⟩ := st.s.r.some_of (by omega)
              have hcb := st.s.r.at1 hIn
              have hwb : IntKind.u32.wrap (t.rv I) = t.rv I := by have := HWR.out I; exact IntWalk.u32_in _ (by omega)
              have hbs := run_num1
              have hown := RMine.alloc st.g (.cells #[.int .u32 (t.rv I)] 34)
              have st4 := Lib.hid (st.below ((Below.refl wr.heap.size wr).alloc (Nat.le_refl _) (.cells #[.int .u32 (t.rv I)] 34)))
              have hsw := st.s.x.lt
              clear st
              go_wp2_with (first | (refine wpList_append_own _ rfl (.tmp 115) (.tmp 122) 149 rfl (w.heap.size + 1) 34 i2 (.int .u32 0) 1 4 Tryd.underlying149 hi2 hx0 hx1 hx2 rfl (by decide) (.slice ga j gc) j _ rfl hown ⟨wr.heap.size, 0, none⟩ 1 1 [.int .u32 (t.rv I)] rfl rfl (numNews wr (t.rv I)) (numOne (t.rv I)) (by unfold maxLen; omega) (by omega) (by simp; omega) ?_))
              intro v' w5 ho5 hg5 _
              have hIr : 60 * r + j = I := by have h1 := HI.out; have h2 := HR.out; omega
              have hrow5 : ∀ q, (Value.slice ga j gc).ownBlock = some q → w.heap.size < q := fun q hq => by have := (World.ownsRow.lt hown q hq).1; omega
              have hg5' : RMine w5 (w.heap.size + 1) 34 1 v' (j + 1) (numF fun i => t.rv (60 * r + i)) := RMine.snoc ho5 (by show _ = [Value.int .u32 (t.rv (60 * r + j))]; rw [hIr])
              obtain ⟨ga', gc', rfl⟩ := hg5'.form
              have st5 : Hid (RpN w t ca cc (some ⟨b, off, none⟩) rc la N lc r (j + 1) ga' gc' w5) := ⟨st4.out.s.grown hg5 hrow5 (own_block_ne st4.out.s.l hown (by decide)) HCA.out HRA.out, hg5'⟩
              have hI9 : R + (j + 1) = I + 1 := by have := HI.out; omega
              clear ho5 hg5 hg5' st4 hown hrow5 hcb hwb hbs c2
              go_wp2_with fail
              go_roundw
              case rel => first | exact ⟨j + 1, ga', gc', rfl, by rw [hI9]; first | rfl | go_num, by omega, st5.out⟩ | ((repeat apply Exists.intro); exact ⟨⟨j + 1, ga', gc', rfl, by rw [hI9]; first | rfl | go_num, by omega, st5.out⟩, rfl⟩)
              case measure => have := HI.out; simp [intOf]; omega
            · obtain rfl : j = kk := by omega
              obtain ⟨I, hI⟩ : ∃ I, I = R + j := ⟨_, rfl⟩
              have hcase : (¬ (I : Int) < (R : Int) + 60) ∨ ((I : Int) < (R : Int) + 60 ∧ ¬ (I : Int) < (t.m : Int)) := by omega
              rw [← hI]
              have HI := Lib.hid hI
              have ST := Lib.hid st
              have c0 : wr.cell? ⟨w.heap.size, 0, none⟩ = some (.int .u32 t.s) := st.s.x.cell (i := 0) rfl
              have hsw := st.s.x.lt
              clear hI st
              rcases hcase with hI1 | ⟨hI1, hI2⟩
              all_goals
                go_wp2_with fail
                refine (rWriteRevoke_any t.s ga j gc (fun i => t.rv (60 * r + i)) HOK.out.s (fun i => HWR.out _) (by omega) wr (numRow_of (RMine.row ST.out.g (numF_len _)))).mono ?_
                rintro e w2 ⟨rfl, hb2⟩
                have st2 := Lib.hid (ST.out.below hb2)
                have hs2 := hb2.size
                have hB2 := Blk.new w2 32 256 (fun _ => 0)
                have hL2 : Below w2.heap.size w2 (w2.alloc (.cells (Ks .u8 256 (fun _ => 0)).toArray 32)) := (Below.refl _ _).alloc (Nat.le_refl _) _
                obtain ⟨y, hy⟩ : ∃ y, y = revZ t.s j (fun i => t.rv (60 * r + i)) := ⟨_, rfl⟩
                have HY := Lib.hid hy
                rw [← hy]
                clear ST hb2 hy c0 c2
                go_wp2_with (first | (refine wp_storeBlk rfl (.tmp 16) (.tmp 129) rfl w2.heap.size y _ rfl rfl hB2 ?_))
                intro w3 hB3 ho3
                have hL3 := hL2.trans (ho3.below (Nat.le_refl _))
                have hs3 := hL3.size
                have st4 := Lib.hid ((st2.out.below hL3).below ((Below.refl w3.heap.size w3).alloc (Nat.le_refl _) (.cells (Ks .u8 256 y).toArray 32)))
                have hown4 := st4.out.s.l
                have hnews4 : ∀ (i : Nat) (u : Value), (Ks .u8 256 y)[i]? = some u → (w3.alloc (.cells (Ks .u8 256 y).toArray 32)).cell? ((⟨w3.heap.size, 0, none⟩ : Addr).add i) = some u := cells_news w3 (Ks .u8 256 y) _
                have hlen : (Ks .u8 256 y).length = 1 * 256 := by simp [Ks]
                clear st2 hL2 hL3 ho3 hB2
                go_wp2_with (first | (refine wp_loadBlkG rfl (.tmp 16) rfl _ _ rfl hB3 ?_) | (refine wpList_slice1 rfl 24 1 0 (.tmp 132) rfl (bval y) rfl _ _ (run_block1 y _) ?_) | (refine wpList_append_own _ rfl (.tmp 131) (.tmp 133) 24 rfl (w.heap.size + 1) 32 i0 (bval fun _ => 0) 256 256 Tryd.underlying24 hi0 hz0 hz1 hz2 (by simp [Value.cells, Ks]) (by decide) (.slice la N lc) N _ rfl hown4 ⟨w3.heap.size, 0, none⟩ 1 1 (Ks .u8 256 y) rfl hlen hnews4 (Ks_oneL .u8 256 y) (by unfold maxLen; omega) (by omega) (by simp; omega) ?_))
                intro v' w5 ho5 hg5 _
                have hp0 : y = pk0 t N := by
                  have := pk0_rev (t := t) (r := r) (i := dN t.n + r) (by omega)
                  rw [if_neg (by omega)] at this
                  rw [HY.out, HN.out, ← this, HKK.out]
                have hl5 : RMine w5 (w.heap.size + 1) 32 256 v' (N + 1) (bkF (pk0 t)) := RMine.snoc ho5 (by show _ = Ks .u8 256 (pk0 t N); rw [← hp0])
                obtain ⟨la5, lc5, rfl⟩ := hl5.form
                have st5 := st4.out.s.app hg5 hl5 HCA.out HRA.out
                have hN' : N + 1 = dN t.n + (r + 1) := by have h1 := HN.out; omega
                have hR' : 60 * (r + 1) = R + 60 := by have := HR.out; omega
                rw [hN'] at st5
                rw [hN']
                have ST5 := Lib.hid st5
                have HR' := Lib.hid hR'
                clear ho5 hg5 hl5 st4 hown4 hnews4 hlen hB3 hp0 st5 hN' hR'
                go_wp2_with fail
                go_roundw
                case rel => first | exact ⟨r + 1, la5, lc5, rfl, by rw [HR'.out]; first | rfl | go_num, by omega, ST5.out⟩ | ((repeat apply Exists.intro); exact ⟨⟨r + 1, la5, lc5, rfl, by rw [HR'.out]; first | rfl | go_num, by omega, ST5.out⟩, rfl⟩)
                case measure => have := HR.out; simp [intOf]; omega
        · obtain rfl : r = rN t.m := by omega
          have hRn : ¬ ((60 * rN t.m : Nat) : Int) < (t.m : Int) := by unfold rN; omega
          obtain ⟨R, hR⟩ : ∃ R, R = 60 * rN t.m := ⟨_, rfl⟩
          rw [hCC] at st
          rw [hCC]
          rw [← hR] at hRn
          rw [← hR]
          have ST := Lib.hid st
          clear st hR hlt hr hCC
          obtain ⟨i3, hi3, hv0, hv1, hv2⟩ := info_parts info8
          have hC1 : 1 ≤ C := by
            obtain ⟨_, h0, _, _⟩ := t.may_iff.1 HMAY.out
            have := HC.out
            unfold Tr.c dN rN at this
            omega
          obtain ⟨lq, lcq, hlv, hlq1, hlq2, hlq3, hlq4⟩ := ST.out.l.form' hC1
          injection hlv with hl1 hl2 hl3
          subst hl1 hl3
          have st0 : Hid (RpU w t ca cc ra rc (some ⟨lq, 0, none⟩) C lc 0 none 0 wr) := ⟨ST.out, World.ownsRow_nil _ _ _ _⟩
          have hsw := ST.out.x.lt
          clear ST
          go_wp2_with fail
          go_loopw [18, 19] (fun u i wr => ∃ (k : Nat) (aa : Option Addr) (ac : Nat), u = .slice aa (k * 256) ac ∧ i = .int .i64 (k : Int) ∧ k ≤ C ∧ RpU w t ca cc ra rc (some ⟨lq, 0, none⟩) C lc k aa ac wr) (fun _ i _ => C - (intOf i).toNat)
          case atStart => exact ⟨0, none, 0, rfl, rfl, Nat.zero_le _, st0.out⟩
          case round =>
            clear st0 c2
            obtain ⟨k, aa, ac, rfl, rfl, hk, st⟩ := hrel
            have hsw2 := st.s.x.lt
            by_cases hlt : k < C
            · have hlt' : (k : Int) < (C : Int) := by omega
              have k0 : (0 : Int) ≤ (k : Int) := by omega
              have hsl := fun W => run_sliceBlkAll lq (k * 256) W
              have hown := st.a
              have hnews : ∀ (j : Nat) (u : Value), (Ks .u8 256 (pk0 t k))[j]? = some u → wr.cell? ((⟨lq, k * 256, none⟩ : Addr).add j) = some u := fun j u hj => by
                rw [addr_add]
                have := RMine.seg st.s.l (bkF_len _) k hlt j u hj
                rwa [Nat.zero_add] at this
              have hlen : (Ks .u8 256 (pk0 t k)).length = 256 * 1 := by simp [Ks]
              have ST := Lib.hid st
              clear st
              go_wp2_with (first | (refine wpList_append_own _ rfl (.tmp 141) (.tmp 145) 142 rfl (w.heap.size + 1) 5 i3 (.int .u8 0) 1 1 Tryd.underlying142 hi3 hv0 hv1 hv2 rfl (by decide) (.slice aa (k * 256) ac) (k * 256) _ rfl hown ⟨lq, k * 256, none⟩ 256 256 (Ks .u8 256 (pk0 t k)) rfl hlen hnews (Ks_oneL .u8 256 _) (by unfold maxLen; omega) (by omega) (by omega) ?_))
              intro v' w5 ho5 hg5 _
              have hrow5 : ∀ q, (Value.slice aa (k * 256) ac).ownBlock = some q → w.heap.size < q := fun q hq => by have := (World.ownsRow.lt hown q hq).1; omega
              rw [show k * 256 + 256 = (k + 1) * 256 by omega, show Cs (bkF (pk0 t)) k ++ Ks .u8 256 (pk0 t k) = Cs (bkF (pk0 t)) (k + 1) from rfl] at ho5
              obtain ⟨g5, c5, rfl⟩ := own_form' ho5 (by omega)
              have st5 : Hid (RpU w t ca cc ra rc (some ⟨lq, 0, none⟩) C lc (k + 1) (some ⟨g5, 0, none⟩) c5 w5) := ⟨ST.out.s.grown hg5 hrow5 (own_block_ne ST.out.s.l hown (by decide)) HCA.out HRA.out, ho5⟩
              clear ho5 hg5 hrow5 ST hown hnews hlen hsl
              go_wp2_with fail
              go_roundw
              case rel => first | exact ⟨k + 1, _, _, rfl, by first | rfl | go_num, by omega, st5.out⟩ | ((repeat apply Exists.intro); exact ⟨⟨k + 1, _, _, rfl, by first | rfl | go_num, by omega, st5.out⟩, rfl⟩)
              case measure => simp [intOf]; omega
            · obtain rfl : k = C := by omega
              have HRW := Lib.hid (row_of_flat st.a)
              have hown := st.a
              have hcb := crcB_bd (pk0 t) k
              have HCR : Hid (crcZ (flat (pk0 t)) (k * 256) = crcB (pk0 t) k) := crc_flat _ _
              have HFB := Lib.hid (flat_byt (pk0_byt t HOK.out))
              go_wp2_with fail
              apply Tb.wp_region_tab [⟨10, 20, 32, (Ks .u8 256 fun _ => 0).toArray, 11, (Ks .u8 256 (commitZ t.s k (crcB (pk0 t) k))).toArray⟩] (RpV w t ca cc ra rc (some ⟨lq, 0, none⟩) k lc k aa ac wr.heap.size) wr.heap.size (A := _) (by kernel_rfl) (by kernel_rfl) (by kernel_rfl) (by kernel_rfl) (by kernel_rfl) (by kernel_rfl) (fun W W' h hb => h.below hb) (fun W W' p h hp ho => h.only hp ho) (fun W h => h.sz) ⟨⟨⟨st.s.x, st.s.c, st.s.r, st.s.l, st.s.bel.drew⟩, st.a⟩, Nat.le_refl _, HCA.out, HRA.out, st.s.x.lt, fun q e => (World.ownsRow.lt st.s.l q e).2, fun q e => (World.ownsRow.lt st.a q e).2⟩
              case hwalk =>
                intro R hR hne
                simp only [Tb.plain, Tb.inAl, Tb.inSt, Tb.skOf, List.map_cons, List.map_nil, List.any_cons, List.any_nil, Nat.reduceAdd, Nat.reduceBEq, Bool.or_false, Bool.or_true, Bool.or_self, Bool.false_eq_true, if_false, if_true]
                have hc0 : ∀ y : InW (fun W => RpV w t ca cc ra rc (some ⟨lq, 0, none⟩) k lc k aa ac wr.heap.size W ∧ R W), y.W.cell? ⟨w.heap.size, 0, none⟩ = some (.int .u32 t.s) := fun y => y.h.1.u.s.x.cell (i := 0) rfl
                first | go_big_quiet_skip | (go_big_quiet_want; go_big_quiet_op; go_big_quiet_on)
                first | go_big_quiet_skip | (go_big_quiet_want; go_big_quiet_op; go_big_quiet_on)
                first | go_big_quiet_skip | (go_big_quiet_want; go_big_quiet_op; go_big_quiet_on)
                first | go_big_quiet_skip | (go_big_quiet_want; go_big_quiet_op; go_big_quiet_on)
                first | go_big_quiet_skip | (go_big_quiet_want; go_big_quiet_op; go_big_quiet_on)
                go_big_quiet_want
                go_big_quiet_op
                refine ⟨.int .u32 (crcB (pk0 t) k), fun s => q_call s (fun W hW => (rSum_any aa (k * 256) ac (flat (pk0 t)) W (by omega) (row_of_flat hW.1.u.a) HFB.out).mono fun e w' h => ⟨h.1.trans (by rw [HCR.out]), by obtain ⟨_, rfl⟩ := h; exact hW⟩), ?_⟩
                go_big_quiet_on
                go_big_quiet_want
                go_big_quiet_op
                refine ⟨_, fun s => q_call s (fun W hW => (rWriteCommit_any t.s k (crcB (pk0 t) k) W HOK.out.s (by omega) hcb).mono fun e w' h => ⟨h.1, hW.1.below h.2, hR W w' hW.2 h.2⟩), ?_⟩
                go_big_quiet_on
                first | go_big_quiet_skip | (go_big_quiet_want; go_big_quiet_op; go_big_quiet_on)
                first | go_big_quiet_skip | (go_big_quiet_want; go_big_quiet_op; go_big_quiet_on)
                first | go_big_quiet_skip | (go_big_quiet_want; go_big_quiet_op; go_big_quiet_on)
                first | go_big_quiet_skip | (go_big_quiet_want; go_big_quiet_op; go_big_quiet_on)
                exact wpQuiet_nil rfl
              case hal =>
                intro x hx o ho a' W
                rw [List.mem_singleton] at hx
                subst hx
                have ho' := Option.some.inj ho
                subst ho'
                exact Tb.alloc_tab rfl a' W
              case hst =>
                intro x hx o ho
                rw [List.mem_singleton] at hx
                subst hx
                have ho' := Option.some.inj ho
                subst ho'
                exact Tb.store_tab 155 (commitZ t.s k (crcB (pk0 t) k)) (fun _ => 0) rfl rfl (fun y hy => by rw [List.mem_singleton] at hy; subst hy; show (20 : Nat) ≠ 155; decide) rfl rfl rfl
              case hend =>
                intro pp w4 st4 hpp _
                simp only [List.foldl_cons, List.foldl_nil, Act.put, List.setIfInBounds_toArray, List.set_cons_succ, List.set_cons_zero]
                obtain ⟨hbp, hB4⟩ := hpp _ (List.mem_singleton.2 rfl)
                simp only at hbp hB4
                generalize pp 20 = p at *
                obtain ⟨y, hy⟩ : ∃ y, y = commitZ t.s k (crcB (pk0 t) k) := ⟨_, rfl⟩
                have HY := Lib.hid hy
                rw [← hy]
                rw [← hy] at hB4
                have hB5 : Blk w4 p 32 256 y := hB4
                clear hy hB4 st hown hpp
                have hown9 := RMine.alloc st4.u.s.l (.cells (Ks .u8 256 y).toArray 32)
                have hnews9 : ∀ (i : Nat) (u : Value), (Ks .u8 256 y)[i]? = some u → (w4.alloc (.cells (Ks .u8 256 y).toArray 32)).cell? ((⟨w4.heap.size, 0, none⟩ : Addr).add i) = some u := cells_news w4 (Ks .u8 256 y) _
                have hlen9 : (Ks .u8 256 y).length = 1 * 256 := by simp [Ks]
                have HL9 := Lib.hid (st4.u.s.bel.alloc st4.u.s.bel.size (.cells (Ks .u8 256 y).toArray 32))
                have hsz9 := st4.u.s.bel.size
                have hsx9 := st4.u.s.x.lt
                clear st4
                go_wp2_with (first | (refine wp_loadBlkG rfl (.tmp 20) rfl _ _ rfl hB5 ?_) | (refine wpList_slice1 rfl 24 1 0 (.tmp 158) rfl (bval y) rfl _ _ (run_block1 y _) ?_) | (refine wpList_append_own _ rfl (.tmp 157) (.tmp 159) 24 rfl (w.heap.size + 1) 32 i0 (bval fun _ => 0) 256 256 Tryd.underlying24 hi0 hz0 hz1 hz2 (by simp [Value.cells, Ks]) (by decide) (.slice (some ⟨lq, 0, none⟩) k lc) k _ rfl hown9 ⟨w4.heap.size, 0, none⟩ 1 1 (Ks .u8 256 y) rfl hlen9 hnews9 (Ks_oneL .u8 256 y) (by unfold maxLen; omega) (by omega) (by simp; omega) ?_))
                intro v' w5 ho5 hg5 _
                have hkc : k = t.c := HC.out
                rw [Cs_congr (f := bkF (pk0 t)) (g := bkF (pkB t)) (n := k) (fun i hi => by unfold bkF pkB; rw [if_pos (by omega)])] at ho5
                have hl5 : RMine w5 (w.heap.size + 1) 32 256 v' (k + 1) (bkF (pkB t)) := RMine.snoc ho5 (by show _ = Ks .u8 256 (pkB t k); unfold pkB; rw [if_neg (by omega), HY.out, ← hkc])
                obtain ⟨q, cap, rfl, -, -, -, -⟩ := hl5.form' (by omega)
                have HL5 := Lib.hid (HL9.out.grown hg5 HL9.out.size (fun q e => by have := (World.ownsRow.lt hown9 q e).1; omega))
                have HM5 : Hid (RMine w5 (w.heap.size + 1) 32 256 (.slice (some ⟨q, 0, none⟩) (t.c + 1) cap) (t.c + 1) (bkF (pkB t))) := by
                  rw [← hkc]; exact hl5
                have HKC := Lib.hid hkc
                clear ho5 hg5 hl5 hkc hown9 hnews9 hlen9 hB5
                go_wp2_with fail
                go_ret2
                exact ⟨.inr ⟨HE.out, q, cap, by rw [← HKC.out]; rfl, HM5.out⟩, HL5.out⟩
end Go.Proofs.YtnbmmhoofilmfaaDoor
