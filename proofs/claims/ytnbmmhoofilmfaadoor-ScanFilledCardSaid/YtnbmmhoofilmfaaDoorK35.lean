/- Texts of this claim, merged by a program (a claim may have 60 files): CopyB, Outside, Sc1. -/
import Derived.Test.YtnbmmhoofilmfaaDoorK17
import Derived.Laws.CopyRow
import Derived.Deep.RegionLaw
import Derived.Test.YtnbmmhoofilmfaaDoorK34
import Derived.Test.YtnbmmhoofilmfaaDoorK07
import Derived.Test.YtnbmmhoofilmfaaDoorK32
import Derived.Test.YtnbmmhoofilmfaaDoorK26
/- 'copy(dst, src)' of elements of m cells each, dst in a row of one's own. No program in sight. -/
namespace Go.Proofs.YtnbmmhoofilmfaaDoor
open Go.RowKit
set_option linter.unusedVariables false

theorem run_copyM (P : Program) (w : World) (dT sT ty elem : TypeId) (m g o dLen dCap : Nat) (a : Addr) (sLen sCap : Nat) (cur : Array Value) (t : TypeId) (cs : List Value)
    (hu : P.underlying dT = some (.slice elem)) (hs : (P.info? elem).map (·.size) = some m)
    (hg : w.heap[g]? = some (.cells cur t (0, 0))) (hn : cs.length = Nat.min sLen dLen * m)
    (hsrc : ∀ j v, cs[j]? = some v → w.cell? (a.add j) = some v) (hfit : o + cs.length ≤ cur.size) (h1 : ∀ v ∈ cs, v.oneCell' = true) :
    (Builtin.copy_ #[dT, sT] ty #[.slice (some ⟨g, o, none⟩) dLen dCap, .slice (some a) sLen sCap]).run P w =
      .ok (goInt (Nat.min sLen dLen)) (w.setRow g (cur.toList.take o ++ cs ++ cur.toList.drop (o + cs.length)).toArray) := by
  have hl := run_loadCells_list (P := P) w a cs hsrc
  have hst := run_storeCells_at P g o t cs 0 cur w hg (by simpa using hfit) h1
  cases hq : P.info? elem with
  | none => simp [hq] at hs
  | some i =>
    have hi : i.size = m := by simpa [hq] using hs
    simp [Builtin.copy_, run_underlying hu, Builtin.lenOf, Builtin.firstCells, Go.sizeOf, typeInfo, hq, hi, ← hn, hl, hst]
theorem RArr.list {W : World} {g : Nat} {T : TypeId} {m n : Nat} {f : Nat → List Value} (h : RArr W g T m n f) (hf : ∀ i, (f i).length = m) : W.heap[g]? = some (.cells (Cs f n).toArray T (0, 0)) := by
  obtain ⟨cs, h1, h2⟩ := h.blk
  suffices he : cs.toList = Cs f n by rw [h1, ← he]
  apply List.ext_getElem?
  intro p
  by_cases hp : p < n * m
  · have hm : 0 < m := by
      rcases Nat.eq_zero_or_pos m with e | e
      · rw [e, Nat.mul_zero] at hp; omega
      · exact e
    have hq : p / m < n := (Nat.div_lt_iff_lt_mul hm).2 hp
    have hr : p % m < m := Nat.mod_lt _ hm
    have he : p / m * m + p % m = p := by rw [Nat.mul_comm]; exact Nat.div_add_mod p m
    obtain ⟨v, hv⟩ : ∃ v, (f (p / m))[p % m]? = some v := ⟨_, List.getElem?_eq_getElem (by rw [hf]; exact hr)⟩
    have h3 := h.seg (p / m) hq (p % m) v hv
    rw [Nat.zero_add, he] at h3
    have h4 := Cs_get hf hq hr
    rw [he] at h4
    rw [h4, hv, Array.getElem?_toList, Array.getElem?_eq_getElem (by rw [h2]; exact hp)]
    have h5 := cell_of_heap h1 (Array.getElem?_eq_getElem (show p < cs.size by rw [h2]; exact hp))
    rw [h3] at h5
    exact h5.symm
  · rw [List.getElem?_eq_none (by rw [Array.length_toList, h2]; omega), List.getElem?_eq_none (by rw [Cs_length hf]; omega)]
theorem RArr.of_list {W : World} {g : Nat} {T : TypeId} {m n : Nat} {f : Nat → List Value} (h : W.heap[g]? = some (.cells (Cs f n).toArray T (0, 0))) (hf : ∀ i, (f i).length = m) : RArr W g T m n f :=
  ⟨⟨_, h, by simp [Cs_length hf]⟩, fun i hi j v hv => by
    rw [Nat.zero_add]
    refine cell_of_heap h ?_
    have hj : j < m := by have := (List.getElem?_eq_some_iff.1 hv).1; rw [hf] at this; exact this
    rw [List.getElem?_toArray, Cs_get hf hi hj]
    exact hv⟩
theorem Cs_take (f : Nat → List Value) {m : Nat} (hf : ∀ i, (f i).length = m) {n k : Nat} (h : k ≤ n) : (Cs f n).take (k * m) = Cs f k := by
  obtain ⟨d, rfl⟩ : ∃ d, n = k + d := ⟨n - k, by omega⟩
  rw [← Cs_cat, List.take_append_of_le_length (by rw [Cs_length hf]; exact Nat.le_refl _), List.take_of_length_le (by rw [Cs_length hf]; exact Nat.le_refl _)]
theorem Cs_drop (f : Nat → List Value) {m : Nat} (hf : ∀ i, (f i).length = m) {n k : Nat} (h : k ≤ n) : (Cs f n).drop (k * m) = Cs (fun i => f (k + i)) (n - k) := by
  obtain ⟨d, rfl⟩ : ∃ d, n = k + d := ⟨n - k, by omega⟩
  rw [← Cs_cat, show k * m = (Cs f k).length by rw [Cs_length hf], List.drop_append_of_le_length (Nat.le_refl _), List.drop_length, List.nil_append, Nat.add_sub_cancel_left]
/-- f, with n elements of h from k on -/
def laid (f h : Nat → List Value) (k n : Nat) (i : Nat) : List Value := if k ≤ i ∧ i < k + n then h (i - k) else f i
theorem laid_len {f h : Nat → List Value} {m : Nat} (hf : ∀ i, (f i).length = m) (hh : ∀ i, (h i).length = m) (k n i : Nat) : (laid f h k n i).length = m := by unfold laid; split; exact hh _; exact hf _
theorem Cs_laid {f h : Nat → List Value} {m : Nat} (hf : ∀ i, (f i).length = m) (hh : ∀ i, (h i).length = m) {N k n : Nat} (hk : k + n ≤ N) :
    (Cs f N).take (k * m) ++ Cs h n ++ (Cs f N).drop (k * m + n * m) = Cs (laid f h k n) N := by
  rw [← Nat.add_mul, Cs_take f hf (by omega), Cs_drop f hf hk, show N = k + n + (N - (k + n)) by omega, ← Cs_cat (laid f h k n) (k + n), ← Cs_cat (laid f h k n) k]
  congr 1
  · congr 1
    · exact Cs_congr fun i hi => by unfold laid; rw [if_neg (by omega)]
    · exact Cs_congr fun i hi => by unfold laid; rw [if_pos (by omega), Nat.add_sub_cancel_left]
  · rw [show k + n + (N - (k + n)) - (k + n) = N - (k + n) by omega]
    exact Cs_congr fun i hi => by unfold laid; rw [if_neg (by omega)]
/-- **copy, one operation of a walk** -/
theorem wpList_copyM {P : Program} {w : World} {ops : Array Oper} {rest : List Oper} {o : Oper} {a : Act} {Q : Exit → Act → World → Prop} (hgd : o.guard = none) (d s : Operand) (dT sT : TypeId)
    (ho : o.op = .call { callee := .builtin .copy, args := #[d, s], argTypes := #[dT, sT] }) (elem : TypeId) (m : Nat) (hu : P.underlying dT = some (.slice elem)) (hsz : (P.info? elem).map (·.size) = some m)
    (g off dLen dCap : Nat) (ad : Addr) (sLen sCap : Nat) (hd : a.eval d = .slice (some ⟨g, off, none⟩) dLen dCap) (hs : a.eval s = .slice (some ad) sLen sCap)
    (N k n : Nat) (f h : Nat → List Value) (hR : RArr w g elem m N f) (hf : ∀ i, (f i).length = m) (hh : ∀ i, (h i).length = m) (h1 : ∀ i, ∀ v ∈ h i, v.oneCell' = true) (hn : n = Nat.min sLen dLen) (hS : RRow w (some ad) m n h) (hm : 0 < m)
    (hoff : 0 < n → off = k * m) (hk : k + n ≤ N) (hoff0 : off ≤ N * m)
    (H : ∀ w', RArr w' g elem m N (laid f h k n) → Only g w w' → wpList P ops Q rest (a.put o.dst (goInt n)) w') : wpList P ops Q (o :: rest) a w := by
  refine wpList_plain hgd fun K hK => ?_
  have hl := hR.list hf
  have hsrc : ∀ j v, (Cs h n)[j]? = some v → w.cell? (ad.add j) = some v := fun j v hj => by
    rcases hS with h0 | ⟨b, o', hbo, hsg⟩
    · subst h0; simp [Cs] at hj
    · injection hbo with hbo
      subst hbo
      have hlt : j < n * m := by have := (List.getElem?_eq_some_iff.1 hj).1; rwa [Cs_length hh] at this
      have hq : j / m < n := (Nat.div_lt_iff_lt_mul hm).2 hlt
      have hr : j % m < m := Nat.mod_lt _ hm
      have he : j / m * m + j % m = j := by rw [Nat.mul_comm]; exact Nat.div_add_mod j m
      have h4 := Cs_get hh hq hr
      rw [he, hj] at h4
      have h3 := hsg (j / m) hq (j % m) v h4.symm
      rw [Nat.add_assoc, he] at h3
      have : (⟨b, o', none⟩ : Addr).add j = ⟨b, o' + j, none⟩ := by unfold Addr.add; split <;> simp_all
      rw [this]; exact h3
  have hfit : off + (Cs h n).length ≤ (Cs f N).toArray.size := by
    rw [Cs_length hh, List.size_toArray, Cs_length hf]
    rcases Nat.eq_zero_or_pos n with e | e
    · subst e; omega
    · rw [hoff e, ← Nat.add_mul]; exact Nat.mul_le_mul_right m hk
  have hrun := run_copyM P w dT sT o.type elem m g off dLen dCap ad sLen sCap _ elem (Cs h n) hu hsz hl (by rw [Cs_length hh, hn]) hsrc hfit (Cs_one h1 n)
  unfold Oper.wp
  simp only [execOp, ho]
  simp [resolve, invoke, builtin, hd, hs, hrun, Result.andThen]
  refine hK _ _ ?_
  rw [← hn]
  have hcs : ((Cs f N).take off ++ Cs h n ++ (Cs f N).drop (off + (Cs h n).length)) = Cs (laid f h k n) N := by
    rw [Cs_length hh]
    rcases Nat.eq_zero_or_pos n with e | e
    · subst e
      simp only [Cs, Nat.zero_mul, Nat.add_zero, List.append_nil, List.take_append_drop]
      exact Cs_congr fun i hi => by unfold laid; rw [if_neg (by omega)]
    · rw [hoff e]; exact Cs_laid hf hh hk
  have hw := H (w.setRow g (Cs (laid f h k n) N).toArray) (RArr.of_list (setRow_heap w g _ _ elem _ hl) (laid_len hf hh k n)) (only_setRow w g _ hl (by rw [List.size_toArray, List.size_toArray, Cs_length hf, Cs_length (laid_len hf hh k n)]))
  rw [← List.append_assoc, hcs]
  exact hw
end Go.Proofs.YtnbmmhoofilmfaaDoor

/- ScanOutside. -/
namespace Go.Proofs.YtnbmmhoofilmfaaDoor
open Go.RowKit
set_option linter.unusedVariables false

set_option maxHeartbeats 1000000 in
theorem outside_any (G S I J x : Int) (hx0 : -9223372036854775808 ≤ x) (hx1 : x ≤ 9223372036854775807) (w : World) :
    Calls Tryd.prog 43 #[gval G S I J, .int .i64 x] w fun e w' => e = .returned (.bool (outB G S I J x)) ∧ Below w.heap.size w w' := by
  have hA := At.new w 23 (gcells G S I J)
  have hL : Hid (Below w.heap.size w (w.alloc (.cells (gcells G S I J) 23))) := (Below.refl _ _).alloc (Nat.le_refl _) _
  go_enter Tryd.func43, Tryd.ntmps43
  go_wp2_with (first | (refine wp_loadAtG rfl 23 (.tmp 2) rfl _ _ _ rfl hA Tryd.underlying23 rfl (by kernel_rfl) ?_))
  clear hA
  refine (what_any G S I J x hx0 hx1 _).mono ?_
  rintro e w1 ⟨K, A, B, rfl, hk, hb⟩
  have HL := Lib.hid (hL.out.trans (hb.mono hL.out.size))
  have HK := Lib.hid hk
  clear hk hb hL
  obtain ⟨c0, hc0⟩ : ∃ c, (K != 0) = c := ⟨_, rfl⟩
  obtain ⟨c3, hc3⟩ : ∃ c, (K != 3) = c := ⟨_, rfl⟩
  have HO : Hid (outB G S I J x = (c0 && c3)) := by show _ = _; rw [← HK.out, hc0, hc3]
  cases c0 <;> cases c3 <;> (
    go_wp2_with fail
    go_ret
    exact ⟨by rw [HO.out]; rfl, HL.out⟩)
structure SoS (w : World) (G S I J : Int) (W : World) : Prop where
  g : At W w.heap.size 23 (gcells G S I J)
  bel : Below w.heap.size w W
theorem SoS.below {w : World} {G S I J : Int} {W W' : World} (h : SoS w G S I J W) (hb : Below W.heap.size W W') : SoS w G S I J W' := ⟨h.g.below hb h.g.lt, h.bel.trans (hb.mono h.bel.size)⟩
end Go.Proofs.YtnbmmhoofilmfaaDoor

/- scan.turned, scan.outside. -/
namespace Go.Proofs.YtnbmmhoofilmfaaDoor
open Go.RowKit
set_option linter.unusedVariables false

set_option maxRecDepth 100000 in
theorem cutB_lh (g off len cap lo hi : Nat) (l h : Int) (hl : l = (lo : Int)) (hh : h = (hi : Int)) (h1 : lo ≤ hi) (h2 : hi ≤ cap) (h3 : lo < cap) (w : World) :
    (Instr.slice 24 (.slice (some ⟨g, off, none⟩) len cap) (some (.int .i64 l)) (some (.int .i64 h)) none).run Tryd.prog w = .ok (.slice (some ⟨g, off + lo * 256, none⟩) (hi - lo) (cap - lo)) w := by
  subst hl hh
  have hsz : (Go.sizeOf 32).run Tryd.prog w = .ok 256 w := by kernel_rfl
  rw [run_slice_lh w 24 _ len cap (by kernel_rfl) .i64 .i64 (lo : Int) (hi : Int) (by omega) (by omega) (by omega), show Tryd.prog.elem 24 = 32 from by kernel_rfl, hsz]
  simp only [Result.andThen, sliced, Int.toNat_natCast]
  rw [if_neg (by omega), Option.map_some, addr_add]
set_option maxRecDepth 100000 in
theorem cutB_l (g off len cap lo : Nat) (l : Int) (hl : l = (lo : Int)) (h1 : lo ≤ len) (w : World) :
    (Instr.slice 24 (.slice (some ⟨g, off, none⟩) len cap) (some (.int .i64 l)) none none).run Tryd.prog w = .ok (.slice (some ⟨g, if cap = lo then off else off + lo * 256, none⟩) (len - lo) (cap - lo)) w := by
  subst hl
  have hsz : (Go.sizeOf 32).run Tryd.prog w = .ok 256 w := by kernel_rfl
  rw [run_slice_l w 24 _ len cap (by kernel_rfl) .i64 (lo : Int) (by omega) (by omega), show Tryd.prog.elem 24 = 32 from by kernel_rfl, hsz]
  simp only [Result.andThen, sliced, Int.toNat_natCast]
  split
  · rfl
  · rw [Option.map_some, addr_add]
set_option maxRecDepth 100000 in
theorem cutB_h (g off len cap hi : Nat) (h : Int) (hh : h = (hi : Int)) (h2 : hi ≤ cap) (w : World) :
    (Instr.slice 24 (.slice (some ⟨g, off, none⟩) len cap) none (some (.int .i64 h)) none).run Tryd.prog w = .ok (.slice (some ⟨g, off, none⟩) hi cap) w := by
  subst hh
  have hsz : (Go.sizeOf 32).run Tryd.prog w = .ok 256 w := by kernel_rfl
  rw [run_slice_h w 24 _ len cap (by kernel_rfl) .i64 (hi : Int) (by omega) (by omega), show Tryd.prog.elem 24 = 32 from by kernel_rfl, hsz]
  simp only [Result.andThen, sliced, Int.toNat_natCast]
  split
  · rfl
  · rw [Option.map_some, addr_add]; simp
/-- the ring's blocks, from a place on -/
def ringL (L : Nat → Nat → Int) (j t k : Nat) : Nat → Int := L (3 + (t - 1 + k) % (j - 1))
theorem ring_laid (L : Nat → Nat → Int) {j t r u : Nat} (hr : r + 1 = j) (hu : u + 1 = t) (h2 : t < j) (k : Nat) (hk : k < r) :
    laid (laid (fun _ => Ks .u8 256 fun _ => 0) (fun i => bkF L (3 + u + i)) 0 (r - u)) (fun i => bkF L (3 + i)) (r - u) u k = bkF (ringL L j t) k := by
  unfold laid bkF ringL
  rw [show t - 1 = u by omega, show j - 1 = r by omega]
  by_cases h : k < r - u
  · rw [if_neg (by omega), if_pos (by omega), Nat.mod_eq_of_lt (by omega), Nat.sub_zero, ← Nat.add_assoc]
  · rw [if_pos (by omega)]
    have : (u + k) % r = k - (r - u) := by
      rw [Nat.mod_eq_sub_mod (by omega), Nat.mod_eq_of_lt (by omega)]; omega
    rw [this]
/-- while the ring is turned -/
structure TuS (w : World) (b off : Nat) (L : Nat → Nat → Int) (N q r : Nat) (f : Nat → List Value) (W : World) : Prop where
  l : RRow W (some ⟨b, off, none⟩) 256 N (bkF L)
  a : RArr W q 32 256 r f
  bel : Below w.heap.size w W
theorem bk_sub {W : World} {b off N : Nat} {L : Nat → Nat → Int} (h : RRow W (some ⟨b, off, none⟩) 256 N (bkF L)) (r k off' : Nat) (hk : r + k ≤ N) (ho : off' = off + r * 256) : RRow W (some ⟨b, off', none⟩) 256 k (fun i => bkF L (r + i)) := by
  subst ho
  rcases h with h0 | ⟨b', o', e, hs⟩
  · exact .inl (by omega)
  · injection e with e
    injection e with e1 e2
    subst e1 e2
    exact .inr ⟨b, _, rfl, RSeg.sub hs r k hk⟩
theorem bk_only {W W' : World} {b q off N : Nat} {L : Nat → Nat → Int} (h : RRow W (some ⟨b, off, none⟩) 256 N (bkF L)) (ho : Only q W W') (hne : b ≠ q) : RRow W' (some ⟨b, off, none⟩) 256 N (bkF L) := by
  rcases h with h0 | ⟨b', o', e, hs⟩
  · exact .inl h0
  · injection e with e
    injection e with e1 e2
    subst e1 e2
    exact .inr ⟨b, off, rfl, fun i hi j v hj => (World.cell?_of_block (w := W) (ho.block b hne)).trans (hs i hi j v hj)⟩

set_option maxRecDepth 100000 in
set_option maxHeartbeats 4000000 in
theorem turned_any (b off N cap : Nat) (L : Nat → Nat → Int) (G S I : Int) (j t : Nat) (hj : 2 ≤ j) (hj9 : j ≤ 256) (hN : 2 + j ≤ N) (hc : N ≤ cap) (hc9 : (cap : Int) ≤ 9223372036854775807) (h1 : 1 ≤ t) (h2 : t < j) (w : World) (hb : b < w.heap.size) (hl : RRow w (some ⟨b, off, none⟩) 256 N (bkF L)) :
    Calls Tryd.prog 57 #[.slice (some ⟨b, off, none⟩) N cap, gval G S I (j : Int), .int .i64 (t : Int)] w fun e w' => ∃ q, e = .returned (.slice (some ⟨q, 0, none⟩) (j - 1) (j - 1)) ∧ w.heap.size ≤ q ∧ RArr w' q 32 256 (j - 1) (bkF (ringL L j t)) ∧ Below w.heap.size w w' := by
  obtain ⟨r, hr⟩ : ∃ r, r + 1 = j := ⟨j - 1, by omega⟩
  obtain ⟨u, hu⟩ : ∃ u, u + 1 = t := ⟨t - 1, by omega⟩
  obtain ⟨v, hv⟩ : ∃ v, v = r - u := ⟨_, rfl⟩
  have hv0 : 0 < v := by omega
  have huv : u + v = r := by omega
  have HR := Lib.hid hr
  have HU := Lib.hid hu
  have HV := Lib.hid huv
  rw [show j - 1 = r by omega]
  have hA := At.new w 23 (gcells G S I (j : Int))
  have c3 := hA.cell (i := 3) (v := .int .i64 (j : Int)) rfl
  have st0 : Hid (RRow (w.alloc (.cells (gcells G S I (j : Int)) 23)) (some ⟨b, off, none⟩) 256 N (bkF L)) := hl.alloc _
  have hL0 : Hid (Below w.heap.size w (w.alloc (.cells (gcells G S I (j : Int)) 23))) := (Below.refl _ _).alloc (Nat.le_refl _) _
  have hs1 : ∀ W, (Instr.slice 24 (.slice (some ⟨b, off, none⟩) N cap) (some (.int .i64 3)) (some (.int .i64 (2 + (j : Int)))) none).run Tryd.prog W = .ok (.slice (some ⟨b, off + 768, none⟩) r (cap - 3)) W := fun W => by
    rw [cutB_lh b off N cap 3 (2 + j) 3 (2 + (j : Int)) (by omega) (by omega) (by omega) (by omega) (by omega) W, show 2 + j - 3 = r by omega]
  have hmk : ∀ W, (Instr.makeSlice 24 (.int .i64 (r : Int)) (.int .i64 (r : Int))).run Tryd.prog W = .ok (.slice (some ⟨W.heap.size, 0, none⟩) r r) (W.alloc (.cells (madeCells (bval fun _ => 0).cells (r * 256)) 32)) := fun W =>
    run_mkrow 24 32 (bval fun _ => 0) 256 256 Tryd.underlying24 info_blk3 .i64 .i64 r (by omega) (by omega) W
  have hs2 : ∀ W, (Instr.slice 24 (.slice (some ⟨b, off + 768, none⟩) r (cap - 3)) (some (.int .i64 ((t : Int) - 1))) none none).run Tryd.prog W = .ok (.slice (some ⟨b, off + (3 + u) * 256, none⟩) v (cap - 3 - u)) W := fun W => by
    rw [cutB_l b (off + 768) r (cap - 3) u ((t : Int) - 1) (by omega) (by omega) W, if_neg (by omega), show r - u = v by omega, show off + 768 + u * 256 = off + (3 + u) * 256 by omega]
  have hs3 : ∀ W, (Instr.slice 24 (.slice (some ⟨b, off + 768, none⟩) r (cap - 3)) none (some (.int .i64 ((t : Int) - 1))) none).run Tryd.prog W = .ok (.slice (some ⟨b, off + 768, none⟩) u (cap - 3)) W := fun W =>
    cutB_h b (off + 768) r (cap - 3) u ((t : Int) - 1) (by omega) (by omega) W
  have hs4 : ∀ q W, (Instr.slice 24 (.slice (some ⟨q, 0, none⟩) r r) (some (.int .i64 (v : Int))) none none).run Tryd.prog W = .ok (.slice (some ⟨q, if u = 0 then 0 else v * 256, none⟩) u u) W := fun q W => by
    rw [cutB_l q 0 r r v (v : Int) rfl (by omega) W, show r - v = u by omega]
    by_cases e : u = 0
    · rw [if_pos e, if_pos (by omega)]
    · rw [if_neg e, if_neg (by omega), Nat.zero_add]
  have j0 : (0 : Int) ≤ (j : Int) := by omega
  have j9 : (j : Int) ≤ 256 := by omega
  have t0 : (1 : Int) ≤ (t : Int) := by omega
  have t9 : (t : Int) ≤ 256 := by omega
  have hbk := bkF_one L
  have hvr : v ≤ r := by omega
  have hr9 : r ≤ 255 := by omega
  have hN3 : 3 + r ≤ N := by omega
  have hring := fun k hk => ring_laid L hr hu h2 k hk
  rw [← hv] at hring
  have HRI : Hid (∀ k, k < r → laid (laid (fun _ => Ks .u8 256 fun _ => 0) (fun i => bkF L (3 + u + i)) 0 v) (fun i => bkF L (3 + i)) v u k = bkF (ringL L j t) k) := hring
  clear hl hA hr hu hv huv hring
  have hR0 : RArr ((w.alloc (.cells (gcells G S I (j : Int)) 23)).alloc (.cells (madeCells (Ks .u8 256 fun _ => 0).toArray (r * 256)) 32)) (w.heap.size + 1) 32 256 r (fun _ => Ks .u8 256 fun _ => 0) := by
    have := RArr.made (m := 256) (w.alloc (.cells (gcells G S I (j : Int)) 23)) (Ks .u8 256 fun _ => 0).toArray (by simp [Ks]) (by omega) r 32
    rw [World.size_alloc] at this
    exact this
  have hI0 : TuS w b off L N (w.heap.size + 1) r (fun _ => Ks .u8 256 fun _ => 0) ((w.alloc (.cells (gcells G S I (j : Int)) 23)).alloc (.cells (madeCells (Ks .u8 256 fun _ => 0).toArray (r * 256)) 32)) :=
    ⟨st0.out.alloc _, hR0, hL0.out.alloc (by simp) _⟩
  clear hR0
  have huvN : 3 + u + v ≤ N := by have := HV.out; omega
  have hsub0 := bk_sub hI0.l (3 + u) v (off + (3 + u) * 256) huvN rfl
  have hsz256 : (Tryd.prog.info? 32).map (·.size) = some 256 := by kernel_rfl
  have hlaid0 : ∀ i, (laid (fun _ => Ks .u8 256 fun _ => 0) (fun i => bkF L (3 + u + i)) 0 v i).length = 256 := laid_len (fun _ => by simp [Ks]) (fun _ => bkF_len _ _) _ _
  go_enter Tryd.func57, Tryd.ntmps57
  go_wp2_with (first | (refine wpList_copyM rfl (.tmp 18) (.tmp 22) 24 24 rfl 32 256 Tryd.underlying24 hsz256 (w.heap.size + 1) 0 r r ⟨b, off + (3 + u) * 256, none⟩ v (cap - 3 - u) rfl rfl r 0 v (fun _ => Ks .u8 256 fun _ => 0) (fun i => bkF L (3 + u + i)) hI0.a (fun _ => by simp [Ks]) (fun _ => bkF_len _ _) (fun i => hbk (3 + u + i)) (Nat.min_eq_left hvr).symm hsub0 (by omega) (fun _ => (Nat.zero_mul _).symm) (by omega) (Nat.zero_le _) ?_))
  intro w3 hR3 ho3
  have ST3 : Hid (TuS w b off L N (w.heap.size + 1) r (laid (fun _ => Ks .u8 256 fun _ => 0) (fun i => bkF L (3 + u + i)) 0 v) w3) := ⟨bk_only hI0.l ho3 (by omega), hR3, hI0.bel.trans (ho3.below (by omega))⟩
  clear hI0 hR3 ho3 st0 hL0 c3
  go_wp2_with fail
  obtain ⟨F1, hF1⟩ : ∃ F1, F1 = laid (fun _ => Ks .u8 256 fun _ => 0) (fun i => bkF L (3 + u + i)) 0 v := ⟨_, rfl⟩
  rw [← hF1] at ST3 hlaid0
  have HF1 := Lib.hid hF1
  have hsub3 : 3 + u ≤ N := by omega
  clear hF1 hs1 hs2 hmk
  refine wp_region_bar2 (TuS w b off L N (w.heap.size + 1) r F1) 7 (by kernel_rfl) (by kernel_rfl) (by kernel_rfl) (by kernel_rfl) (by kernel_rfl) (by decide) ⟨ST3.out.l, ST3.out.a.of_block rfl, ST3.out.bel.drew⟩ ?_
  simp only [List.take_succ_cons, List.take_zero, List.drop_succ_cons, List.drop_zero]
  clear ST3
  intro hne
  have hs4' := hs4 (w.heap.size + 1)
  obtain ⟨o4, ho4⟩ : ∃ o4, o4 = if u = 0 then 0 else v * 256 := ⟨_, rfl⟩
  rw [← ho4] at hs4'
  have HO4 := Lib.hid ho4
  clear hs4 ho4
  repeat (first | go_big_quiet_skip | (go_big_quiet_want; go_big_quiet_op; go_big_quiet_on))
  refine wpQuiet_nil ?_
  intro w5 h5
  have st5 := h5.out
  clear h5 hne
  have hsub5 := bk_sub st5.l 3 u (off + 768) hsub3 (by omega)
  have HOUT : Hid (∀ k, k < r → laid F1 (fun i => bkF L (3 + i)) v u k = bkF (ringL L j t) k) := by rw [HF1.out]; exact HRI.out
  go_wp2_with (first | (refine wpList_copyM rfl (.tmp 26) (.tmp 30) 24 24 rfl 32 256 Tryd.underlying24 hsz256 (w.heap.size + 1) o4 u u ⟨b, off + 768, none⟩ u (cap - 3) rfl rfl r v u F1 (fun i => bkF L (3 + i)) st5.a hlaid0 (fun _ => bkF_len _ _) (fun i => hbk (3 + i)) (Nat.min_self u).symm hsub5 (by omega) (fun h => by rw [HO4.out, if_neg (by omega)]) (by have := HV.out; omega) (by have := HV.out; rw [HO4.out]; split <;> omega) ?_))
  intro w6 hR6 ho6
  have HL6 := Lib.hid (st5.bel.trans (ho6.below (by omega)))
  have HR6 := Lib.hid (hR6.congr HOUT.out)
  clear hR6 ho6 st5 hsub5
  go_wp2_with fail
  go_ret
  exact ⟨_, rfl, by omega, HR6.out, HL6.out⟩
end Go.Proofs.YtnbmmhoofilmfaaDoor
