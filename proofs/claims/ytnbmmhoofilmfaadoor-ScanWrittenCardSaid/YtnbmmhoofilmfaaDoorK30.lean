/- Texts of this claim, merged by a program (a claim may have 60 files): Outside, Sc1, Sc2. -/
import Derived.Test.YtnbmmhoofilmfaaDoorK29
import Derived.Test.YtnbmmhoofilmfaaDoorK05
import Derived.Test.YtnbmmhoofilmfaaDoorK13
import Derived.Test.YtnbmmhoofilmfaaDoorK27
import Derived.Test.YtnbmmhoofilmfaaDoorK28
/- ScanOutside. -/
namespace Go.Proofs.YtnbmmhoofilmfaaDoor
open Go.RowKit
set_option linter.unusedVariables false

set_option maxHeartbeats 1000000 in
theorem outside_any (G S I J x : Int) (hx0 : -9223372036854775808 ≤ x) (hx1 : x ≤ 9223372036854775807) (w : World) :
    Calls Tryd.prog 43 #[gval G S I J, .int .i64 x] w fun e w' => e = .returned (.bool (outB G S I J x)) ∧ Below w.heap.size w w' := by
  have hA := At.new w 23 (gcells G S I J)
  have hL : Hid (Below w.heap.size w (w.alloc (.cells (gcells G S I J) 23))) := (Below.refl _ _).alloc (Nat.le_refl _) _
  go_enter Tryd.func43, Tryd.ntmps43
  go_wp2_with (first | (refine wp_loadAtG rfl 23 (.tmp 2) rfl _ _ _ rfl hA Tryd.underlying23 rfl (by kernel_rfl) ?_))
  clear hA
  refine (what_any G S I J x hx0 hx1 _).mono ?_
  rintro e w1 ⟨K, A, B, rfl, hk, hb⟩
  have HL := Lib.hid (hL.out.trans (hb.mono hL.out.size))
  have HK := Lib.hid hk
  clear hk hb hL
  obtain ⟨c0, hc0⟩ : ∃ c, (K != 0) = c := ⟨_, rfl⟩
  obtain ⟨c3, hc3⟩ : ∃ c, (K != 3) = c := ⟨_, rfl⟩
  have HO : Hid (outB G S I J x = (c0 && c3)) := by show _ = _; rw [← HK.out, hc0, hc3]
  cases c0 <;> cases c3 <;> (
    go_wp2_with fail
    go_ret
    exact ⟨by rw [HO.out]; rfl, HL.out⟩)
structure SoS (w : World) (G S I J : Int) (W : World) : Prop where
  g : At W w.heap.size 23 (gcells G S I J)
  bel : Below w.heap.size w W
theorem SoS.below {w : World} {G S I J : Int} {W W' : World} (h : SoS w G S I J W) (hb : Below W.heap.size W W') : SoS w G S I J W' := ⟨h.g.below hb h.g.lt, h.bel.trans (hb.mono h.bel.size)⟩
end Go.Proofs.YtnbmmhoofilmfaaDoor

/- scan.turned, scan.outside. -/
namespace Go.Proofs.YtnbmmhoofilmfaaDoor
open Go.RowKit
set_option linter.unusedVariables false

set_option maxRecDepth 100000 in
theorem cutB_lh (g off len cap lo hi : Nat) (l h : Int) (hl : l = (lo : Int)) (hh : h = (hi : Int)) (h1 : lo ≤ hi) (h2 : hi ≤ cap) (h3 : lo < cap) (w : World) :
    (Instr.slice 24 (.slice (some ⟨g, off, none⟩) len cap) (some (.int .i64 l)) (some (.int .i64 h)) none).run Tryd.prog w = .ok (.slice (some ⟨g, off + lo * 256, none⟩) (hi - lo) (cap - lo)) w := by
  subst hl hh
  have hsz : (Go.sizeOf 32).run Tryd.prog w = .ok 256 w := by kernel_rfl
  rw [run_slice_lh w 24 _ len cap (by kernel_rfl) .i64 .i64 (lo : Int) (hi : Int) (by omega) (by omega) (by omega), show Tryd.prog.elem 24 = 32 from by kernel_rfl, hsz]
  simp only [Result.andThen, sliced, Int.toNat_natCast]
  rw [if_neg (by omega), Option.map_some, addr_add]
set_option maxRecDepth 100000 in
theorem cutB_l (g off len cap lo : Nat) (l : Int) (hl : l = (lo : Int)) (h1 : lo ≤ len) (w : World) :
    (Instr.slice 24 (.slice (some ⟨g, off, none⟩) len cap) (some (.int .i64 l)) none none).run Tryd.prog w = .ok (.slice (some ⟨g, if cap = lo then off else off + lo * 256, none⟩) (len - lo) (cap - lo)) w := by
  subst hl
  have hsz : (Go.sizeOf 32).run Tryd.prog w = .ok 256 w := by kernel_rfl
  rw [run_slice_l w 24 _ len cap (by kernel_rfl) .i64 (lo : Int) (by omega) (by omega), show Tryd.prog.elem 24 = 32 from by kernel_rfl, hsz]
  simp only [Result.andThen, sliced, Int.toNat_natCast]
  split
  · rfl
  · rw [Option.map_some, addr_add]
set_option maxRecDepth 100000 in
theorem cutB_h (g off len cap hi : Nat) (h : Int) (hh : h = (hi : Int)) (h2 : hi ≤ cap) (w : World) :
    (Instr.slice 24 (.slice (some ⟨g, off, none⟩) len cap) none (some (.int .i64 h)) none).run Tryd.prog w = .ok (.slice (some ⟨g, off, none⟩) hi cap) w := by
  subst hh
  have hsz : (Go.sizeOf 32).run Tryd.prog w = .ok 256 w := by kernel_rfl
  rw [run_slice_h w 24 _ len cap (by kernel_rfl) .i64 (hi : Int) (by omega) (by omega), show Tryd.prog.elem 24 = 32 from by kernel_rfl, hsz]
  simp only [Result.andThen, sliced, Int.toNat_natCast]
  split
  · rfl
  · rw [Option.map_some, addr_add]; simp
/-- the ring's blocks, from a place on -/
def ringL (L : Nat → Nat → Int) (j t k : Nat) : Nat → Int := L (3 + (t - 1 + k) % (j - 1))
theorem ring_laid (L : Nat → Nat → Int) {j t r u : Nat} (hr : r + 1 = j) (hu : u + 1 = t) (h2 : t < j) (k : Nat) (hk : k < r) :
    laid (laid (fun _ => Ks .u8 256 fun _ => 0) (fun i => bkF L (3 + u + i)) 0 (r - u)) (fun i => bkF L (3 + i)) (r - u) u k = bkF (ringL L j t) k := by
  unfold laid bkF ringL
  rw [show t - 1 = u by omega, show j - 1 = r by omega]
  by_cases h : k < r - u
  · rw [if_neg (by omega), if_pos (by omega), Nat.mod_eq_of_lt (by omega), Nat.sub_zero, ← Nat.add_assoc]
  · rw [if_pos (by omega)]
    have : (u + k) % r = k - (r - u) := by
      rw [Nat.mod_eq_sub_mod (by omega), Nat.mod_eq_of_lt (by omega)]; omega
    rw [this]
/-- while the ring is turned -/
structure TuS (w : World) (b off : Nat) (L : Nat → Nat → Int) (N q r : Nat) (f : Nat → List Value) (W : World) : Prop where
  l : RRow W (some ⟨b, off, none⟩) 256 N (bkF L)
  a : RArr W q 32 256 r f
  bel : Below w.heap.size w W
theorem bk_sub {W : World} {b off N : Nat} {L : Nat → Nat → Int} (h : RRow W (some ⟨b, off, none⟩) 256 N (bkF L)) (r k off' : Nat) (hk : r + k ≤ N) (ho : off' = off + r * 256) : RRow W (some ⟨b, off', none⟩) 256 k (fun i => bkF L (r + i)) := by
  subst ho
  rcases h with h0 | ⟨b', o', e, hs⟩
  · exact .inl (by omega)
  · injection e with e
    injection e with e1 e2
    subst e1 e2
    exact .inr ⟨b, _, rfl, RSeg.sub hs r k hk⟩
theorem bk_only {W W' : World} {b q off N : Nat} {L : Nat → Nat → Int} (h : RRow W (some ⟨b, off, none⟩) 256 N (bkF L)) (ho : Only q W W') (hne : b ≠ q) : RRow W' (some ⟨b, off, none⟩) 256 N (bkF L) := by
  rcases h with h0 | ⟨b', o', e, hs⟩
  · exact .inl h0
  · injection e with e
    injection e with e1 e2
    subst e1 e2
    exact .inr ⟨b, off, rfl, fun i hi j v hj => (World.cell?_of_block (w := W) (ho.block b hne)).trans (hs i hi j v hj)⟩

set_option maxRecDepth 100000 in
set_option maxHeartbeats 4000000 in
theorem turned_any (b off N cap : Nat) (L : Nat → Nat → Int) (G S I : Int) (j t : Nat) (hj : 2 ≤ j) (hj9 : j ≤ 256) (hN : 2 + j ≤ N) (hc : N ≤ cap) (hc9 : (cap : Int) ≤ 9223372036854775807) (h1 : 1 ≤ t) (h2 : t < j) (w : World) (hb : b < w.heap.size) (hl : RRow w (some ⟨b, off, none⟩) 256 N (bkF L)) :
    Calls Tryd.prog 57 #[.slice (some ⟨b, off, none⟩) N cap, gval G S I (j : Int), .int .i64 (t : Int)] w fun e w' => ∃ q, e = .returned (.slice (some ⟨q, 0, none⟩) (j - 1) (j - 1)) ∧ w.heap.size ≤ q ∧ RArr w' q 32 256 (j - 1) (bkF (ringL L j t)) ∧ Below w.heap.size w w' := by
  obtain ⟨r, hr⟩ : ∃ r, r + 1 = j := ⟨j - 1, by omega⟩
  obtain ⟨u, hu⟩ : ∃ u, u + 1 = t := ⟨t - 1, by omega⟩
  obtain ⟨v, hv⟩ : ∃ v, v = r - u := ⟨_, rfl⟩
  have hv0 : 0 < v := by omega
  have huv : u + v = r := by omega
  have HR := Lib.hid hr
  have HU := Lib.hid hu
  have HV := Lib.hid huv
  rw [show j - 1 = r by omega]
  have hA := At.new w 23 (gcells G S I (j : Int))
  have c3 := hA.cell (i := 3) (v := .int .i64 (j : Int)) rfl
  have st0 : Hid (RRow (w.alloc (.cells (gcells G S I (j : Int)) 23)) (some ⟨b, off, none⟩) 256 N (bkF L)) := hl.alloc _
  have hL0 : Hid (Below w.heap.size w (w.alloc (.cells (gcells G S I (j : Int)) 23))) := (Below.refl _ _).alloc (Nat.le_refl _) _
  have hs1 : ∀ W, (Instr.slice 24 (.slice (some ⟨b, off, none⟩) N cap) (some (.int .i64 3)) (some (.int .i64 (2 + (j : Int)))) none).run Tryd.prog W = .ok (.slice (some ⟨b, off + 768, none⟩) r (cap - 3)) W := fun W => by
    rw [cutB_lh b off N cap 3 (2 + j) 3 (2 + (j : Int)) (by omega) (by omega) (by omega) (by omega) (by omega) W, show 2 + j - 3 = r by omega]
  have hmk : ∀ W, (Instr.makeSlice 24 (.int .i64 (r : Int)) (.int .i64 (r : Int))).run Tryd.prog W = .ok (.slice (some ⟨W.heap.size, 0, none⟩) r r) (W.alloc (.cells (madeCells (bval fun _ => 0).cells (r * 256)) 32)) := fun W =>
    run_mkrow 24 32 (bval fun _ => 0) 256 256 Tryd.underlying24 info_blk3 .i64 .i64 r (by omega) (by omega) W
  have hs2 : ∀ W, (Instr.slice 24 (.slice (some ⟨b, off + 768, none⟩) r (cap - 3)) (some (.int .i64 ((t : Int) - 1))) none none).run Tryd.prog W = .ok (.slice (some ⟨b, off + (3 + u) * 256, none⟩) v (cap - 3 - u)) W := fun W => by
    rw [cutB_l b (off + 768) r (cap - 3) u ((t : Int) - 1) (by omega) (by omega) W, if_neg (by omega), show r - u = v by omega, show off + 768 + u * 256 = off + (3 + u) * 256 by omega]
  have hs3 : ∀ W, (Instr.slice 24 (.slice (some ⟨b, off + 768, none⟩) r (cap - 3)) none (some (.int .i64 ((t : Int) - 1))) none).run Tryd.prog W = .ok (.slice (some ⟨b, off + 768, none⟩) u (cap - 3)) W := fun W =>
    cutB_h b (off + 768) r (cap - 3) u ((t : Int) - 1) (by omega) (by omega) W
  have hs4 : ∀ q W, (Instr.slice 24 (.slice (some ⟨q, 0, none⟩) r r) (some (.int .i64 (v : Int))) none none).run Tryd.prog W = .ok (.slice (some ⟨q, if u = 0 then 0 else v * 256, none⟩) u u) W := fun q W => by
    rw [cutB_l q 0 r r v (v : Int) rfl (by omega) W, show r - v = u by omega]
    by_cases e : u = 0
    · rw [if_pos e, if_pos (by omega)]
    · rw [if_neg e, if_neg (by omega), Nat.zero_add]
  have j0 : (0 : Int) ≤ (j : Int) := by omega
  have j9 : (j : Int) ≤ 256 := by omega
  have t0 : (1 : Int) ≤ (t : Int) := by omega
  have t9 : (t : Int) ≤ 256 := by omega
  have hbk := bkF_one L
  have hvr : v ≤ r := by omega
  have hr9 : r ≤ 255 := by omega
  have hN3 : 3 + r ≤ N := by omega
  have hring := fun k hk => ring_laid L hr hu h2 k hk
  rw [← hv] at hring
  have HRI : Hid (∀ k, k < r → laid (laid (fun _ => Ks .u8 256 fun _ => 0) (fun i => bkF L (3 + u + i)) 0 v) (fun i => bkF L (3 + i)) v u k = bkF (ringL L j t) k) := hring
  clear hl hA hr hu hv huv hring
  have hR0 : RArr ((w.alloc (.cells (gcells G S I (j : Int)) 23)).alloc (.cells (madeCells (Ks .u8 256 fun _ => 0).toArray (r * 256)) 32)) (w.heap.size + 1) 32 256 r (fun _ => Ks .u8 256 fun _ => 0) := by
    have := RArr.made (m := 256) (w.alloc (.cells (gcells G S I (j : Int)) 23)) (Ks .u8 256 fun _ => 0).toArray (by simp [Ks]) (by omega) r 32
    rw [World.size_alloc] at this
    exact this
  have hI0 : TuS w b off L N (w.heap.size + 1) r (fun _ => Ks .u8 256 fun _ => 0) ((w.alloc (.cells (gcells G S I (j : Int)) 23)).alloc (.cells (madeCells (Ks .u8 256 fun _ => 0).toArray (r * 256)) 32)) :=
    ⟨st0.out.alloc _, hR0, hL0.out.alloc (by simp) _⟩
  clear hR0
  have huvN : 3 + u + v ≤ N := by have := HV.out; omega
  have hsub0 := bk_sub hI0.l (3 + u) v (off + (3 + u) * 256) huvN rfl
  have hsz256 : (Tryd.prog.info? 32).map (·.size) = some 256 := by kernel_rfl
  have hlaid0 : ∀ i, (laid (fun _ => Ks .u8 256 fun _ => 0) (fun i => bkF L (3 + u + i)) 0 v i).length = 256 := laid_len (fun _ => by simp [Ks]) (fun _ => bkF_len _ _) _ _
  go_enter Tryd.func57, Tryd.ntmps57
  go_wp2_with (first | (refine wpList_copyM rfl (.tmp 18) (.tmp 22) 24 24 rfl 32 256 Tryd.underlying24 hsz256 (w.heap.size + 1) 0 r r ⟨b, off + (3 + u) * 256, none⟩ v (cap - 3 - u) rfl rfl r 0 v (fun _ => Ks .u8 256 fun _ => 0) (fun i => bkF L (3 + u + i)) hI0.a (fun _ => by simp [Ks]) (fun _ => bkF_len _ _) (fun i => hbk (3 + u + i)) (Nat.min_eq_left hvr).symm hsub0 (by omega) (fun _ => (Nat.zero_mul _).symm) (by omega) (Nat.zero_le _) ?_))
  intro w3 hR3 ho3
  have ST3 : Hid (TuS w b off L N (w.heap.size + 1) r (laid (fun _ => Ks .u8 256 fun _ => 0) (fun i => bkF L (3 + u + i)) 0 v) w3) := ⟨bk_only hI0.l ho3 (by omega), hR3, hI0.bel.trans (ho3.below (by omega))⟩
  clear hI0 hR3 ho3 st0 hL0 c3
  go_wp2_with fail
  obtain ⟨F1, hF1⟩ : ∃ F1, F1 = laid (fun _ => Ks .u8 256 fun _ => 0) (fun i => bkF L (3 + u + i)) 0 v := ⟨_, rfl⟩
  rw [← hF1] at ST3 hlaid0
  have HF1 := Lib.hid hF1
  have hsub3 : 3 + u ≤ N := by omega
  clear hF1 hs1 hs2 hmk
  refine wp_region_bar2 (TuS w b off L N (w.heap.size + 1) r F1) 7 (by kernel_rfl) (by kernel_rfl) (by kernel_rfl) (by kernel_rfl) (by kernel_rfl) (by decide) ⟨ST3.out.l, ST3.out.a.of_block rfl, ST3.out.bel.drew⟩ ?_
  simp only [List.take_succ_cons, List.take_zero, List.drop_succ_cons, List.drop_zero]
  clear ST3
  intro hne
  have hs4' := hs4 (w.heap.size + 1)
  obtain ⟨o4, ho4⟩ : ∃ o4, o4 = if u = 0 then 0 else v * 256 := ⟨_, rfl⟩
  rw [← ho4] at hs4'
  have HO4 := Lib.hid ho4
  clear hs4 ho4
  repeat (first | go_big_quiet_skip | (go_big_quiet_want; go_big_quiet_op; go_big_quiet_on))
  refine wpQuiet_nil ?_
  intro w5 h5
  have st5 := h5.out
  clear h5 hne
  have hsub5 := bk_sub st5.l 3 u (off + 768) hsub3 (by omega)
  have HOUT : Hid (∀ k, k < r → laid F1 (fun i => bkF L (3 + i)) v u k = bkF (ringL L j t) k) := by rw [HF1.out]; exact HRI.out
  go_wp2_with (first | (refine wpList_copyM rfl (.tmp 26) (.tmp 30) 24 24 rfl 32 256 Tryd.underlying24 hsz256 (w.heap.size + 1) o4 u u ⟨b, off + 768, none⟩ u (cap - 3) rfl rfl r v u F1 (fun i => bkF L (3 + i)) st5.a hlaid0 (fun _ => bkF_len _ _) (fun i => hbk (3 + i)) (Nat.min_self u).symm hsub5 (by omega) (fun h => by rw [HO4.out, if_neg (by omega)]) (by have := HV.out; omega) (by have := HV.out; rw [HO4.out]; split <;> omega) ?_))
  intro w6 hR6 ho6
  have HL6 := Lib.hid (st5.bel.trans (ho6.below (by omega)))
  have HR6 := Lib.hid (hR6.congr HOUT.out)
  clear hR6 ho6 st5 hsub5
  go_wp2_with fail
  go_ret
  exact ⟨_, rfl, by omega, HR6.out, HL6.out⟩
end Go.Proofs.YtnbmmhoofilmfaaDoor

/- scan.outside. -/
namespace Go.Proofs.YtnbmmhoofilmfaaDoor
open Go.RowKit
set_option linter.unusedVariables false

/-- all of the first n -/
def allQ (p : Nat → Bool) : Nat → Bool
  | 0 => true
  | n + 1 => allQ p n && p n
theorem allQ_iff (p : Nat → Bool) (n : Nat) : allQ p n = true ↔ ∀ i, i < n → p i = true := by
  induction n with
  | zero => exact ⟨fun _ i hi => absurd hi (Nat.not_lt_zero _), fun _ => rfl⟩
  | succ n ih =>
    rw [allQ, Bool.and_eq_true, ih]
    constructor
    · rintro ⟨h1, h2⟩ i hi
      rcases Nat.lt_succ_iff_lt_or_eq.1 hi with h | h
      · exact h1 i h
      · rw [h]; exact h2
    · exact fun h => ⟨fun i hi => h i (by omega), h n (by omega)⟩
/-- are all blocks that a transaction names outside of the journal? -/
def outT (G S I J : Int) (n : Nat) (cb : Nat → Int) (m : Nat) (rv : Nat → Int) : Bool := allQ (fun i => outB G S I J (cb i)) n && allQ (fun i => outB G S I J (rv i)) m
theorem allQ_no {p : Nat → Bool} {n k : Nat} (hk : k < n) (h : p k = false) : allQ p n = false := by
  cases hb : allQ p n with
  | false => rfl
  | true => rw [(allQ_iff p n).1 hb k hk] at h; cases h
structure OuS (w : World) (G S I J s : Int) (ca : Option Addr) (n cc : Nat) (cb : Nat → Int) (cd : Nat → Nat → Int) (ra : Option Addr) (m rc : Nat) (rv : Nat → Int) (W : World) : Prop where
  g : At W w.heap.size 23 (gcells G S I J)
  t : At W (w.heap.size + 1) 51 (tcells s ca n cc ra m rc)
  c : RRow W ca 257 n (cpF cb cd)
  v : RRow W ra 1 m (inF rv)
  bel : Below w.heap.size w W
theorem OuS.below {w : World} {G S I J s : Int} {ca : Option Addr} {n cc : Nat} {cb : Nat → Int} {cd : Nat → Nat → Int} {ra : Option Addr} {m rc : Nat} {rv : Nat → Int} {W W' : World} (h : OuS w G S I J s ca n cc cb cd ra m rc rv W) (hb : Below W.heap.size W W') : OuS w G S I J s ca n cc cb cd ra m rc rv W' :=
  ⟨h.g.below hb h.g.lt, h.t.below hb h.t.lt, h.c.below (by intro e; cases e) hb, h.v.below (by intro e; cases e) hb, h.bel.trans (hb.mono h.bel.size)⟩
theorem OuS.only {w : World} {G S I J s : Int} {ca : Option Addr} {n cc : Nat} {cb : Nat → Int} {cd : Nat → Nat → Int} {ra : Option Addr} {m rc : Nat} {rv : Nat → Int} {W W' : World} {p : Nat} (h : OuS w G S I J s ca n cc cb cd ra m rc rv W) (ho : Only p W W') (hp : w.heap.size + 1 < p)
    (hc : ∀ b off, ca = some ⟨b, off, none⟩ → 0 < n → b ≠ p) (hr : ∀ b off, ra = some ⟨b, off, none⟩ → 0 < m → b ≠ p) : OuS w G S I J s ca n cc cb cd ra m rc rv W' :=
  ⟨h.g.only ho (by omega), h.t.only ho (by omega), by
    rcases h.c with h0 | h0
    · exact .inl h0
    · rcases Nat.eq_zero_or_pos n with e | e
      · exact .inl e
      · exact RRow.only (.inr h0) ho fun b off e' => hc b off e' e, by
    rcases h.v with h0 | h0
    · exact .inl h0
    · rcases Nat.eq_zero_or_pos m with e | e
      · exact .inl e
      · exact RRow.only (.inr h0) ho fun b off e' => hr b off e' e, h.bel.trans (ho.below (by omega))⟩
theorem rrow_old {W : World} {a : Option Addr} {m n : Nat} {f : Nat → List Value} (h : RRow W a m n f) (hf : ∀ i, (f i).length = m) (hm : 0 < m) : ∀ b off, a = some ⟨b, off, none⟩ → 0 < n → b < W.heap.size := fun b off e hn => by
  rcases h with h | ⟨b', off', e', h⟩
  · omega
  · rw [e] at e'
    injection e' with e'
    injection e' with e1 e2
    subst e1 e2
    obtain ⟨v, hv⟩ : ∃ v, (f 0)[0]? = some v := ⟨_, List.getElem?_eq_getElem (by rw [hf]; exact hm)⟩
    exact World.block_lt_of_cell? W _ (h 0 hn 0 v hv)

set_option maxRecDepth 100000 in
set_option maxHeartbeats 4000000 in
theorem outsideT_any (G S I J s : Int) (n m : Nat) (cb : Nat → Int) (cd : Nat → Nat → Int) (rv : Nat → Int) (ca : Option Addr) (cc : Nat) (ra : Option Addr) (rc : Nat) (hcb : ∀ i, -9223372036854775808 ≤ cb i ∧ cb i ≤ 9223372036854775807) (hrv : ∀ i, -9223372036854775808 ≤ rv i ∧ rv i ≤ 9223372036854775807) (hn : (n : Int) ≤ 9223372036854775807) (hm : (m : Int) ≤ 9223372036854775807)
    (w : World) (hc : RRow w ca 257 n (cpF cb cd)) (hr : RRow w ra 1 m (inF rv)) :
    Calls Tryd.prog 58 #[gval G S I J, tval s ca n cc ra m rc] w fun e w' => e = .returned (.bool (outT G S I J n cb m rv)) ∧ Below w.heap.size w w' := by
  have halc := zero_copy
  have hW : Hid (OuS w G S I J s ca n cc cb cd ra m rc rv ((w.alloc (.cells (gcells G S I J) 23)).alloc (.cells (tcells s ca n cc ra m rc) 51))) := by
    have h2 := At.new (w.alloc (.cells (gcells G S I J) 23)) 51 (tcells s ca n cc ra m rc)
    rw [World.size_alloc] at h2
    exact ⟨(At.new w _ _).alloc _, h2, (hc.alloc _).alloc _, (hr.alloc _).alloc _, ((Below.refl _ _).alloc (Nat.le_refl _) _).alloc (by simp) _⟩
  have HT : Hid (outT G S I J n cb m rv = (allQ (fun i => outB G S I J (cb i)) n && allQ (fun i => outB G S I J (rv i)) m)) := rfl
  have HCB := Lib.hid hcb
  have HRV := Lib.hid hrv
  have hc1 := hW.out.t.cell (i := 1) (v := .slice ca n cc) rfl
  clear hc hr hcb hrv
  go_enter Tryd.func58, Tryd.ntmps58
  go_wp2_with fail
  go_loopw [12] (fun u wr => ∃ k : Nat, u = .int .i64 (k : Int) ∧ k ≤ n ∧ (∀ i, i < k → outB G S I J (cb i) = true) ∧ OuS w G S I J s ca n cc cb cd ra m rc rv wr) (fun u _ => n - (intOf u).toNat)
  case atStart => exact ⟨0, rfl, Nat.zero_le _, fun i hi => absurd hi (Nat.not_lt_zero _), hW.out⟩
  case round =>
    clear hW hc1
    obtain ⟨k, rfl, hk, hall, st⟩ := hrel
    have HALL := Lib.hid hall
    clear hall
    by_cases hlt : k < n
    · have hlt' : (k : Int) < (n : Int) := by omega
      have k0 : (0 : Int) ≤ (k : Int) := by omega
      obtain ⟨b, off, rfl, hsg⟩ : ∃ b off, ca = some ⟨b, off, none⟩ ∧ RSeg wr b off 257 n (cpF cb cd) := by
        rcases st.c with h | h
        · omega
        · exact h
      have hrg : wr.rangeAt b (off + k * 257) (cpc (cb k) (cd k)) := hsg.range k hlt
      have hrg' := rangeAt_below hrg ((Below.refl wr.heap.size wr).alloc (Nat.le_refl _) (.cells (ccells 0 fun _ => 0) 101)) (World.block_lt_of_cell? wr _ (hrg 0 _ rfl))
      have hA := At.new wr 101 (ccells 0 fun _ => 0)
      have st1 := Lib.hid (st.below ((Below.refl _ _).alloc (Nat.le_refl _) (.cells (ccells 0 fun _ => 0) 101)))
      have hsz := st.t.lt
      have HO1 := Lib.hid (rrow_old st.c (cpF_len _ _) (by omega))
      have HO2 := Lib.hid (rrow_old st.v (inF_len _) (by omega))
      clear st hsg
      go_wp2_with (first | (refine wp_loadMid rfl 101 _ rfl b (off + k * 257) (cpc (cb k) (cd k)) _ rfl hrg Tryd.underlying101 rfl (by rw [cpc_len]; exact info_copy) ?_) | (refine wp_loadMid rfl 101 _ rfl b (off + k * 257) (cpc (cb k) (cd k)) _ rfl hrg' Tryd.underlying101 rfl (by rw [cpc_len]; exact info_copy) ?_) | (refine wp_storeAt rfl 101 (.tmp 6) (.tmp 15) rfl wr.heap.size (ccells (cb k) (cd k)) _ rfl rfl hA (info_copy' _ _) (by rw [ccells_size, ccells_size]) (ccells_one _ _) ?_))
      intro w1 hC1 ho1
      have st2 := Lib.hid (st1.out.only ho1 (by omega) (fun b' off' e h0 => by have := HO1.out b' off' e h0; omega) (fun b' off' e h0 => by have := HO2.out b' off' e h0; omega))
      have hcc : w1.cell? ⟨wr.heap.size, 0, none⟩ = some (.int .i64 (cb k)) := hC1.cell (i := 0) rfl
      have hg := st2.out.g
      clear st1 hrg hrg' hA ho1 hC1
      go_wp2_with (first | (refine wp_loadAtG rfl 23 (.tmp 2) rfl _ _ _ rfl hg Tryd.underlying23 rfl (by kernel_rfl) ?_))
      refine (outside_any G S I J (cb k) (HCB.out k).1 (HCB.out k).2 w1).mono ?_
      rintro e w2 ⟨rfl, hb2⟩
      have ST1 := Lib.hid (st2.out.below hb2)
      clear st2 hg hcc hb2
      cases ho : outB G S I J (cb k) with
      | false =>
        have HO : Hid (outT G S I J n cb m rv = false) := by
          show _ = _
          rw [HT.out, allQ_no (p := fun i => outB G S I J (cb i)) hlt ho, Bool.false_and]
        clear ho
        go_wp2_with fail
        go_ret
        exact ⟨by rw [HO.out]; rfl, ST1.out.bel⟩
      | true =>
        have HALL' : Hid (∀ i, i < k + 1 → outB G S I J (cb i) = true) := fun i hi => by
          rcases Nat.lt_succ_iff_lt_or_eq.1 hi with h | h
          · exact HALL.out i h
          · rw [h]; exact ho
        clear ho HALL
        go_wp2_with fail
        go_roundw
        case rel => first | exact ⟨k + 1, by first | rfl | go_num, by omega, HALL'.out, ST1.out⟩ | ((repeat apply Exists.intro); exact ⟨⟨k + 1, by first | rfl | go_num, by omega, HALL'.out, ST1.out⟩, rfl⟩)
        case measure => simp [intOf]; omega
    · obtain rfl : k = n := by omega
      have hc2 := st.t.cell (i := 2) (v := .slice ra m rc) rfl
      have ST := Lib.hid st
      have HA1 : Hid (allQ (fun i => outB G S I J (cb i)) k = true) := (allQ_iff _ _).2 HALL.out
      clear st HALL
      go_wp2_with fail
      go_loopw [25] (fun u wr => ∃ q : Nat, u = .int .i64 (q : Int) ∧ q ≤ m ∧ (∀ i, i < q → outB G S I J (rv i) = true) ∧ OuS w G S I J s ca k cc cb cd ra m rc rv wr) (fun u _ => m - (intOf u).toNat)
      case atStart => exact ⟨0, rfl, Nat.zero_le _, fun i hi => absurd hi (Nat.not_lt_zero _), ST.out⟩
      case round =>
        clear ST hc2
        obtain ⟨q, rfl, hq, hall, st⟩ := hrel
        have HALL := Lib.hid hall
        clear hall
        by_cases hlt : q < m
        · have hlt' : (q : Int) < (m : Int) := by omega
          have q0 : (0 : Int) ≤ (q : Int) := by omega
          obtain ⟨b, off, rfl, hsg⟩ : ∃ b off, ra = some ⟨b, off, none⟩ ∧ RSeg wr b off 1 m (inF rv) := by
            rcases st.v with h | h
            · omega
            · exact h
          have hrc : wr.cell? ⟨b, off + q, none⟩ = some (.int .i64 (rv q)) := by have := hsg q hlt 0 (.int .i64 (rv q)) rfl; rwa [Nat.mul_one, Nat.add_zero] at this
          have hx := HRV.out q
          have hg := st.g
          have ST := Lib.hid st
          clear st hsg
          go_wp2_with (first | (refine wp_loadAtG rfl 23 (.tmp 2) rfl _ _ _ rfl hg Tryd.underlying23 rfl (by kernel_rfl) ?_))
          refine (outside_any G S I J (rv q) (HRV.out q).1 (HRV.out q).2 wr).mono ?_
          rintro e w1 ⟨rfl, hb1⟩
          have ST1 := Lib.hid (ST.out.below hb1)
          clear ST hg hrc hb1
          cases ho : outB G S I J (rv q) with
          | false =>
            have HO : Hid (outT G S I J k cb m rv = false) := by
              show _ = _
              rw [HT.out, allQ_no (p := fun i => outB G S I J (rv i)) hlt ho, Bool.and_false]
            clear ho
            go_wp2_with fail
            go_ret
            exact ⟨by rw [HO.out]; rfl, ST1.out.bel⟩
          | true =>
            have HALL' : Hid (∀ i, i < q + 1 → outB G S I J (rv i) = true) := fun i hi => by
              rcases Nat.lt_succ_iff_lt_or_eq.1 hi with h | h
              · exact HALL.out i h
              · rw [h]; exact ho
            clear ho HALL
            go_wp2_with fail
            go_roundw
            case rel => first | exact ⟨q + 1, by first | rfl | go_num, by omega, HALL'.out, ST1.out⟩ | ((repeat apply Exists.intro); exact ⟨⟨q + 1, by first | rfl | go_num, by omega, HALL'.out, ST1.out⟩, rfl⟩)
            case measure => simp [intOf]; omega
        · obtain rfl : q = m := by omega
          have HO : Hid (outT G S I J k cb q rv = true) := by
            show _ = _
            rw [HT.out, HA1.out, (allQ_iff _ _).2 HALL.out]; rfl
          have ST := Lib.hid st
          clear st
          go_wp2_with fail
          go_ret
          exact ⟨by rw [HO.out]; rfl, ST.out.bel⟩
end Go.Proofs.YtnbmmhoofilmfaaDoor
