/- Texts of this claim, merged by a program (a claim may have 60 files): U6h, MkF, MkG, U6i, W6b, W6c, U6j. -/
import Derived.Test.YtnbmmhoofilmfaaDoorK17
import Derived.Test.YtnbmmhoofilmfaaDoorK19
import Derived.Test.YtnbmmhoofilmfaaDoorK27
import Derived.Test.YtnbmmhoofilmfaaDoorK26
import Derived.Test.YtnbmmhoofilmfaaDoorK13
import Derived.Test.YtnbmmhoofilmfaaDoorK07
/- quernlaw06.awake. -/
namespace Go.Proofs.YtnbmmhoofilmfaaDoor
open Go.RowKit
set_option linter.unusedVariables false

def sz : Nat → Int := supZ 2 16 8 40 7
def a6b : Nat → Int := fun _ => 12
def a6i : Nat → Int := fun i => if i = 0 then 7 else 8
def a6d : Nat → Int := fun i => if i = 0 then 1 else 0
def dz : Nat → Int := descZ 2 16 8 40 2 a6b a6i a6d
theorem supZ_byt (G S I J O : Int) : Byt (supZ G S I J O) := by
  unfold supZ; split
  · exact sealZ_byt (hz_byt _)
  · intro i; show (0 : Int) ≤ 0 ∧ (0 : Int) < 256; decide
theorem descZ_byt (G S I J : Int) (n : Nat) (b i d : Nat → Int) : Byt (descZ G S I J n b i d) := by
  unfold descZ; split
  · exact sealZ_byt (hz_byt _)
  · intro i; show (0 : Int) ≤ 0 ∧ (0 : Int) < 256; decide
theorem descZ_low {G S I J : Int} {n : Nat} {b i d : Nat → Int} (h : descOk G S I J n b i d = true) (k : Nat) (hk : k < 252) : descZ G S I J n b i d k = hz (dH b i d n) k := by
  unfold descZ; rw [if_pos h, sealZ_low _ _ hk]
structure A6 (w : World) (g0 g1 : Nat) (W : World) : Prop where
  s : At W g0 23 (gcells 2 16 8 40)
  b : Blk W g1 32 256 sz
  t : Tab W
  bel : Below w.heap.size w W
theorem A6.below {w : World} {g0 g1 : Nat} {W W' : World} (h : A6 w g0 g1 W) (hb : Below W.heap.size W W') : A6 w g0 g1 W' := ⟨h.s.below hb h.s.lt, h.b.below hb h.b.lt, h.t.below hb (Nat.le_refl _), h.bel.trans (hb.mono h.bel.size)⟩
theorem A6.only {w : World} {g0 g1 : Nat} {W W' : World} {g : Nat} (h : A6 w g0 g1 W) (hb : Only g W W') (h1 : w.heap.size ≤ g) (hg0 : g0 ≠ g) (hg1 : g1 ≠ g) (hT : 0 < w.heap.size) : A6 w g0 g1 W' :=
  ⟨h.s.only hb hg0, h.b.only hb hg1, h.t.only hb (by omega), h.bel.trans (hb.below h1)⟩

end Go.Proofs.YtnbmmhoofilmfaaDoor

/- The empty image: what each block is, and which are noughts. -/
namespace Go.Proofs.YtnbmmhoofilmfaaDoor
open Go.RowKit
set_option linter.unusedVariables false

theorem mkB_group {g s i j γ d : Nat} (hs : 16 ≤ s) (hj : 40 ≤ j) (hd : d < s) :
    mkB g s i j (2 + j + γ * s + d) = if γ = 0 ∧ d = 2 then rootZ else if d = 0 then bZ (mapB (2 + i / 4) s) else if d = 1 then bZ (mapB (if γ = 0 then 1 else 0) i) else fun _ => 0 := by
  have hsub : 2 + j + γ * s + d - (2 + j) = s * γ + d := by rw [Nat.mul_comm]; omega
  have hmod : (2 + j + γ * s + d - (2 + j)) % s = d := by rw [hsub, Nat.mul_add_mod, Nat.mod_eq_of_lt hd]
  have hdiv : (2 + j + γ * s + d - (2 + j)) / s = γ := by rw [hsub, Nat.mul_add_div (by omega), Nat.div_eq_of_lt hd]; rfl
  unfold mkB mk0
  by_cases e : γ = 0 ∧ d = 2
  · obtain ⟨rfl, rfl⟩ := e
    rw [if_pos (by omega), if_pos ⟨rfl, rfl⟩]
  · rw [if_neg e, hmod, hdiv]
    have e2 : ¬ 2 + j + γ * s + d = 2 + j + 2 := by
      intro h
      apply e
      rcases Nat.eq_zero_or_pos γ with rfl | hγ
      · exact ⟨rfl, by omega⟩
      · have : 1 * s ≤ γ * s := Nat.mul_le_mul_right s hγ
        omega
    rw [if_neg e2, if_neg (by omega), if_neg (by omega), if_neg (by omega), if_neg (by omega)]
theorem mkB_0 {g s i j : Nat} (hj : 40 ≤ j) : mkB g s i j 0 = supZ g s i j 0 := by unfold mkB mk0; rw [if_neg (by omega), if_pos rfl]
theorem mkB_1 {g s i j : Nat} (hj : 40 ≤ j) : mkB g s i j 1 = descZ g s i j g (dkB g s i j) (dkI i) dkD := by unfold mkB mk0; rw [if_neg (by omega), if_neg (by omega), if_pos rfl]
theorem mkB_2 {g s i j : Nat} (hj : 40 ≤ j) : mkB g s i j 2 = headZ 1 0 := by unfold mkB mk0; rw [if_neg (by omega), if_neg (by omega), if_neg (by omega), if_pos rfl]
theorem zero_byt : Byt (fun _ => 0) := fun _ => ⟨Int.le_refl 0, (by decide : (0 : Int) < 256)⟩
theorem headZ_byt (s t : Int) : Byt (headZ s t) := by
  unfold headZ; split
  · exact wz_byt _
  · exact zero_byt
theorem rootI_byt : Byt rootI.byte := by
  intro i
  unfold Ino.byte
  repeat (first | split | exact byteOf_bd _ _ | exact ⟨by decide, by decide⟩)
theorem mkB_byt (g s i j b : Nat) : Byt (mkB g s i j b) := by
  unfold mkB mk0
  repeat (first | split | exact byt_over zero_byt rootI_byt _ _ | exact supZ_byt _ _ _ _ _ | exact descZ_byt _ _ _ _ _ _ _ _ | exact headZ_byt _ _ | exact zero_byt | exact bZ_byt _)

/-- is it a block of noughts? -/
def isZ (z : Nat → Int) : Bool := eqB z (fun _ => 0) 256
/-- which blocks are noughts, by what they are -/
def nghtB (K A B : Int) : Bool := K == 7 || ((K == 3 && decide (0 < B)) || (K == 6 && (decide (0 < A) || decide (2 < B))))
end Go.Proofs.YtnbmmhoofilmfaaDoor

/- quernlaw21.awake. -/
namespace Go.Proofs.YtnbmmhoofilmfaaDoor
open Go.RowKit
set_option linter.unusedVariables false

theorem MkImg.cell {w : World} {g s i j q : Nat} {w' : World} (h : MkImg w g s i j q w') {b k : Nat} (hb : b < 2 + j + g * s) (hk : k < 256) : w'.cell? ⟨q, b * 256 + k, none⟩ = some (.int .u8 (mkB g s i j b k)) := by
  have := h.a.seg b hb k _ (Ks_get .u8 256 _ k hk)
  rwa [Nat.zero_add] at this
theorem make_ex (w : World) (hT : Tab w) :
    Calls Tryd.prog 8 #[gval 2 16 8 40] w fun e w' => ∃ q, e = .returned (.tuple #[.slice (some ⟨q, 0, none⟩) 74 74, .int .i64 0]) ∧ MkImg w 2 16 8 40 q w' :=
  make_yes 2 16 8 40 (by decide) w hT
theorem ex_1 : mkB 2 16 8 40 1 2 = 7 ∧ mkB 2 16 8 40 1 10 = 8 := by
  have h : descOk ((2 : Nat) : Int) ((16 : Nat) : Int) ((8 : Nat) : Int) ((40 : Nat) : Int) 2 (dkB ((2 : Nat) : Int) ((16 : Nat) : Int) ((8 : Nat) : Int) ((40 : Nat) : Int)) (dkI ((8 : Nat) : Int)) dkD = true := descOk0 (by decide)
  rw [mkB_1 (by decide), descZ_low h _ (by omega), descZ_low h _ (by omega)]
  decide
theorem ex_2 : mkB 2 16 8 40 2 8 = 1 := by rw [mkB_2 (by decide)]; decide
theorem ex_42 : mkB 2 16 8 40 42 0 = 15 ∧ mkB 2 16 8 40 42 2 = 255 := by decide
theorem ex_43 : mkB 2 16 8 40 43 0 = 1 ∧ mkB 2 16 8 40 43 1 = 255 := by decide
theorem ex_44 : mkB 2 16 8 40 44 0 = 2 ∧ mkB 2 16 8 40 44 4 = 1 := by decide
theorem ex_59 : mkB 2 16 8 40 59 0 = 0 := by decide
set_option maxRecDepth 100000 in
set_option maxHeartbeats 4000000 in
theorem awake21 (w : World) (hT : Tab w) : Calls Tryd.prog 22 #[] w fun e w' => e = .returned (.bool true) ∧ Below w.heap.size w w' := by
  have halg := zero_geo
  have hs0 := At.new w 23 (gcells 2 16 8 40)
  have HL0 : Hid (Below w.heap.size w (w.alloc (.cells (gcells 2 16 8 40) 23))) := (Below.refl _ _).alloc (Nat.le_refl _) _
  have HT0 := Lib.hid (hT.alloc (.cells (gcells 2 16 8 40) 23))
  clear hT
  go_enter Tryd.func22, Tryd.ntmps22
  go_wp2_with (first | (refine wp_loadAtG rfl 23 (.tmp 1) rfl _ _ _ rfl hs0 Tryd.underlying23 rfl (by kernel_rfl) ?_))
  refine (make_ex _ HT0.out).mono ?_
  rintro e w1 ⟨q, rfl, hi1⟩
  have HI1 := Lib.hid hi1
  have HL1 := Lib.hid (HL0.out.trans (hi1.bel.mono HL0.out.size))
  clear hs0 HL0 HT0 hi1
  go_wp2_with fail
  refine (make_no 0 0 0 0 (by decide) _).mono ?_
  rintro e w2 ⟨rfl, hb2⟩
  have HL2 := Lib.hid (HL1.out.trans (hb2.mono HL1.out.size))
  have key : ∀ b k v, b < 74 → k < 256 → mkB 2 16 8 40 b k = v → w2.cell? ⟨q, b * 256 + k, none⟩ = some (.int .u8 v) := fun b k v hb hk hv => by
    have := HI1.out.cell hb hk
    rw [hv] at this
    exact (hb2.cell (p := ⟨q, b * 256 + k, none⟩) HI1.out.a.lt).trans this
  have k1 := key 1 2 7 (by decide) (by decide) ex_1.1
  have k2 := key 1 10 8 (by decide) (by decide) ex_1.2
  have k3 := key 2 8 1 (by decide) (by decide) ex_2
  have k4 := key 42 0 15 (by decide) (by decide) ex_42.1
  have k5 := key 42 2 255 (by decide) (by decide) ex_42.2
  have k6 := key 43 0 1 (by decide) (by decide) ex_43.1
  have k7 := key 43 1 255 (by decide) (by decide) ex_43.2
  have k8 := key 44 0 2 (by decide) (by decide) ex_44.1
  have k9 := key 44 4 1 (by decide) (by decide) ex_44.2
  have k10 := key 59 0 0 (by decide) (by decide) ex_59
  clear key HI1 HL1 hb2
  simp only [Nat.reduceMul, Nat.reduceAdd] at k1 k2 k3 k4 k5 k6 k7 k8 k9 k10
  go_wp2_with fail
  go_ret
  exact ⟨rfl, HL2.out⟩
end Go.Proofs.YtnbmmhoofilmfaaDoor

/- '==' of superblocks and descriptors; quernref06.Same. -/
namespace Go.Proofs.YtnbmmhoofilmfaaDoor
open Go.RowKit
set_option linter.unusedVariables false

def eqD (a b c a' b' c' : Int) : Bool := a == a' && (b == b' && c == c')
theorem run_eql_desc (a b c a' b' c' : Int) (w : World) : (binOp .eql 74 (dval a b c) (dval a' b' c')).run Tryd.prog w = .ok (.bool (eqD a b c a' b' c')) w := by
  have hS : Tryd.prog.underlying 74 = some (.struct (Tryd.prog.fieldsOf 74)) := by kernel_rfl
  have hp : Tryd.prog.stoodInHeld 74 = false := by kernel_rfl
  rw [run_eql_struct, show (10000 : Nat) = 9999 + 1 from rfl, run_equalIn_agg w 9999 _ _ _ hS hp]
  simp only [Program.fieldsOf, Tryd.underlying74]
  clear hS hp
  go_simp
  unfold eqD
  by_cases h1 : a = a' <;> by_cases h2 : b = b' <;> by_cases h3 : c = c' <;> simp [h1, h2, h3]
def eqG (G S I J G' S' I' J' : Int) : Bool := G == G' && (S == S' && (I == I' && J == J'))
def eqS (G S I J O G' S' I' J' O' : Int) : Bool := eqG G S I J G' S' I' J' && O == O'
theorem eqS_iff {G S I J O G' S' I' J' O' : Int} : eqS G S I J O G' S' I' J' O' = true ↔ G = G' ∧ S = S' ∧ I = I' ∧ J = J' ∧ O = O' := by unfold eqS eqG; simp [and_assoc]

/-- are descriptors the same? -/
def sameD (n n' : Nat) (b i d b' i' d' : Nat → Int) : Bool := decide (n = n') && allB (fun k => eqD (b k) (i k) (d k) (b' k) (i' k) (d' k)) n
structure TwoD (w : World) (x y : Addr) (cs cs' : List Value) (W : World) : Prop where
  s : W.rangeAt x.block x.off cs
  s' : W.rangeAt y.block y.off cs'
  d : ∃ m, W = w.drewN m
end Go.Proofs.YtnbmmhoofilmfaaDoor

/- Plain laws of written superblocks and descriptors; SuperKinds. -/
namespace Go.Proofs.YtnbmmhoofilmfaaDoor
open Go.RowKit
set_option linter.unusedVariables false

theorem hd_seal {l : Nat → Int} (hl : Hvs l) {k : Nat} (hk : k < 126) : hd (sealZ (hz l)) k = l k := by
  unfold hd sealZ
  rw [g16_out _ _ _ _ _ (.inl (by omega))]
  exact g16_hz k (hl k)
theorem g32_seal {l : Nat → Int} (hl : Hvs l) {k : Nat} (hk : k + 1 < 126) : g32 (sealZ (hz l)) (2 * k) = l k + 65536 * l (k + 1) := by
  unfold sealZ
  rw [g32_out _ _ _ _ _ (.inl (by omega))]
  exact g32_hz hl k
theorem hvs0 : Hvs (fun _ => 0) := fun _ => ⟨Int.le_refl 0, by show (0 : Int) < 65536; decide⟩
theorem supH_hvs {G S I J O : Int} (h : mayG G S I J = true) (hO : 0 ≤ O ∧ O < 4294967296) : Hvs (supH G S I J O) := by
  obtain ⟨b1, b2, b3, b4, b5, b6, b7, b8⟩ := geo_small h
  exact upd2_hvs (upd_hvs (upd_hvs (upd_hvs (upd_hvs (upd_hvs (upd_hvs (upd2_hvs hvs0 _ (by decide)) _ (by decide)) _ (by decide)) _ (by omega)) _ (by omega)) _ (by omega)) _ (by omega)) _ hO
theorem supOk_iff {G S I J O : Int} : supOk G S I J O = true ↔ mayG G S I J = true ∧ O ≤ nIn G S I J := by unfold supOk; rw [Bool.and_eq_true, decide_eq_true_eq]
theorem descOk_iff {G S I J : Int} {n : Nat} {b i d : Nat → Int} : descOk G S I J n b i d = true ↔ mayG G S I J = true ∧ mayD G S I J n b i d = true := by unfold descOk; rw [Bool.and_eq_true]
theorem supZ_yes {G S I J O : Int} (h : supOk G S I J O = true) : supZ G S I J O = sealZ (hz (supH G S I J O)) := by unfold supZ; rw [if_pos h]
theorem descZ_yes {G S I J : Int} {n : Nat} {b i d : Nat → Int} (h : descOk G S I J n b i d = true) : descZ G S I J n b i d = sealZ (hz (dH b i d n)) := by unfold descZ; rw [if_pos h]
theorem dH_eq (b i d : Nat → Int) (n m : Nat) : dH b i d n m = if m / 4 < n then (if m % 4 = 0 then b (m / 4) else if m % 4 = 1 then i (m / 4) else if m % 4 = 2 then d (m / 4) else 0) else 0 := by
  induction n with
  | zero => rw [if_neg (by omega)]; rfl
  | succ n ih =>
    show upd (upd (upd (dH b i d n) (4 * n) (b n)) (4 * n + 1) (i n)) (4 * n + 2) (d n) m = _
    unfold upd
    by_cases h2 : m = 4 * n + 2
    · rw [if_pos h2, if_pos (by omega), if_neg (by omega), if_neg (by omega), if_pos (by omega), show m / 4 = n by omega]
    rw [if_neg h2]
    by_cases h1 : m = 4 * n + 1
    · rw [if_pos h1, if_pos (by omega), if_neg (by omega), if_pos (by omega), show m / 4 = n by omega]
    rw [if_neg h1]
    by_cases h0 : m = 4 * n
    · rw [if_pos h0, if_pos (by omega), if_pos (by omega), show m / 4 = n by omega]
    rw [if_neg h0, ih]
    by_cases h3 : m = 4 * n + 3
    · rw [if_neg (by omega), if_pos (by omega), if_neg (by omega), if_neg (by omega), if_neg (by omega)]
    by_cases h : m / 4 < n
    · have h' : m / 4 < n + 1 := by omega
      rw [if_pos h, if_pos h']
    · have h' : ¬ m / 4 < n + 1 := by omega
      rw [if_neg h, if_neg h']
theorem dH_hvs {b i d : Nat → Int} {n : Nat} (h : ∀ k, k < n → (0 ≤ b k ∧ b k ≤ 512) ∧ (0 ≤ i k ∧ i k ≤ 64) ∧ (0 ≤ d k ∧ d k ≤ 64)) : Hvs (dH b i d n) := by
  intro m
  rw [dH_eq]
  split
  · rename_i hm
    have := h (m / 4) hm
    split
    · omega
    split
    · omega
    split
    · omega
    · omega
  · omega
structure K6 (w : World) (G S I J O G' S' I' J' : Int) (W : World) : Prop where
  s : At W w.heap.size 82 (scells G S I J O)
  q : At W (w.heap.size + 1) 23 (gcells G' S' I' J')
  t : Tab W
  bel : Below w.heap.size w W
theorem K6.below {w : World} {G S I J O G' S' I' J' : Int} {W W' : World} (h : K6 w G S I J O G' S' I' J' W) (hb : Below W.heap.size W W') : K6 w G S I J O G' S' I' J' W' := ⟨h.s.below hb h.s.lt, h.q.below hb h.q.lt, h.t.below hb (Nat.le_refl _), h.bel.trans (hb.mono h.bel.size)⟩
theorem K6.only {w : World} {G S I J O G' S' I' J' : Int} {W W' : World} {g : Nat} (h : K6 w G S I J O G' S' I' J' W) (hb : Only g W W') (hg : w.heap.size + 2 ≤ g) (hT : 0 < w.heap.size) : K6 w G S I J O G' S' I' J' W' :=
  ⟨h.s.only hb (by omega), h.q.only hb (by omega), h.t.only hb (by omega), h.bel.trans (hb.below (by omega))⟩

end Go.Proofs.YtnbmmhoofilmfaaDoor

/- SuperUnlike. -/
namespace Go.Proofs.YtnbmmhoofilmfaaDoor
open Go.RowKit
set_option linter.unusedVariables false

theorem supH_at (G S I J O : Int) : supH G S I J O 4 = G ∧ supH G S I J O 5 = S ∧ supH G S I J O 6 = I ∧ supH G S I J O 7 = J ∧ supH G S I J O 8 = O % 65536 ∧ supH G S I J O 9 = O / 65536 := by
  simp [supH, geoH, upd2, upd]
/-- two superblocks that may be have one block just if they are the same -/
theorem unlike {G S I J O G' S' I' J' O' : Int} (h : supOk G S I J O = true) (h' : supOk G' S' I' J' O' = true) (hO : 0 ≤ O ∧ O < 4294967296) (hO' : 0 ≤ O' ∧ O' < 4294967296) :
    eqB (supZ G S I J O) (supZ G' S' I' J' O') 256 = eqS G S I J O G' S' I' J' O' := by
  rw [Bool.eq_iff_iff, eqS_iff]
  constructor
  · intro he
    rw [eqB_iff] at he
    have hh : ∀ k, k < 126 → supH G S I J O k = supH G' S' I' J' O' k := fun k hk => by
      rw [← hd_seal (supH_hvs (supOk_iff.1 h).1 hO) hk, ← hd_seal (supH_hvs (supOk_iff.1 h').1 hO') hk, ← supZ_yes h, ← supZ_yes h']
      unfold hd g16
      rw [he _ (by omega), he _ (by omega)]
    obtain ⟨a4, a5, a6, a7, a8, a9⟩ := supH_at G S I J O
    obtain ⟨b4, b5, b6, b7, b8, b9⟩ := supH_at G' S' I' J' O'
    have e4 := hh 4 (by omega); have e5 := hh 5 (by omega); have e6 := hh 6 (by omega); have e7 := hh 7 (by omega); have e8 := hh 8 (by omega); have e9 := hh 9 (by omega)
    rw [a4, b4] at e4; rw [a5, b5] at e5; rw [a6, b6] at e6; rw [a7, b7] at e7; rw [a8, b8] at e8; rw [a9, b9] at e9
    exact ⟨e4, e5, e6, e7, by omega⟩
  · rintro ⟨rfl, rfl, rfl, rfl, rfl⟩
    exact eqB_refl _ _

structure L6 (w : World) (G S I J O G' S' I' J' O' : Int) (W : World) : Prop where
  s : At W w.heap.size 82 (scells G S I J O)
  q : At W (w.heap.size + 1) 82 (scells G' S' I' J' O')
  t : Tab W
  bel : Below w.heap.size w W
theorem L6.below {w : World} {G S I J O G' S' I' J' O' : Int} {W W' : World} (h : L6 w G S I J O G' S' I' J' O' W) (hb : Below W.heap.size W W') : L6 w G S I J O G' S' I' J' O' W' := ⟨h.s.below hb h.s.lt, h.q.below hb h.q.lt, h.t.below hb (Nat.le_refl _), h.bel.trans (hb.mono h.bel.size)⟩
theorem L6.only {w : World} {G S I J O G' S' I' J' O' : Int} {W W' : World} {g : Nat} (h : L6 w G S I J O G' S' I' J' O' W) (hb : Only g W W') (hg : w.heap.size + 2 ≤ g) (hT : 0 < w.heap.size) : L6 w G S I J O G' S' I' J' O' W' :=
  ⟨h.s.only hb (by omega), h.q.only hb (by omega), h.t.only hb (by omega), h.bel.trans (hb.below (by omega))⟩
structure L6r (w : World) (x1 x2 : List Value) (g1 g2 : Nat) (z1 z2 : Nat → Int) (W : World) : Prop where
  s : W.rangeAt w.heap.size 0 x1
  q : W.rangeAt (w.heap.size + 1) 0 x2
  b1 : Blk W g1 32 256 z1
  b2 : Blk W g2 32 256 z2
  bel : Below w.heap.size w W

end Go.Proofs.YtnbmmhoofilmfaaDoor

/- What was written is read; with a byte otherwise it isn't: plain laws. -/
namespace Go.Proofs.YtnbmmhoofilmfaaDoor
set_option linter.unusedVariables false

theorem supH_low (G S I J O : Int) : supH G S I J O 0 = 21073 ∧ supH G S I J O 1 = 12622 ∧ supH G S I J O 2 = 1 ∧ supH G S I J O 3 = 256 := by
  simp [supH, geoH, upd2, upd]
theorem supH_high (G S I J O : Int) (k : Nat) (hk : 10 ≤ k) : supH G S I J O k = 0 := by
  unfold supH geoH upd2 upd
  rw [if_neg (by omega), if_neg (by omega), if_neg (by omega), if_neg (by omega), if_neg (by omega), if_neg (by omega), if_neg (by omega), if_neg (by omega), if_neg (by omega), if_neg (by omega)]
/-- a superblock's block is read as just that superblock -/
theorem sup_back {G S I J O : Int} (h : supOk G S I J O = true) (hO : 0 ≤ O ∧ O < 4294967296) : readE (supZ G S I J O) = 0 ∧ readV (supZ G S I J O) = sval G S I J O := by
  obtain ⟨hm, hn⟩ := supOk_iff.1 h
  have hv := supH_hvs hm hO
  rw [supZ_yes h]
  generalize hl : supH G S I J O = l at *
  have hh : ∀ k, k < 126 → hd (sealZ (hz l)) k = l k := fun k hk => hd_seal hv hk
  obtain ⟨a0, a1, a2, a3⟩ := supH_low G S I J O
  obtain ⟨a4, a5, a6, a7, a8, a9⟩ := supH_at G S I J O
  have ah := supH_high G S I J O
  rw [hl] at a0 a1 a2 a3 a4 a5 a6 a7 a8 a9 ah
  have z0 : g32 (sealZ (hz l)) 0 = 827216465 := by rw [show (0 : Nat) = 2 * 0 from rfl, g32_seal hv (by omega), a0, a1]; rfl
  have z16 : g32 (sealZ (hz l)) 16 = O := by rw [show (16 : Nat) = 2 * 8 from rfl, g32_seal hv (by omega), a8, a9]; omega
  have zn : allZ (fun i => sealZ (hz l) (20 + i)) 232 = true := by
    have := allZ_hd (sealZ_byt (hz_byt l)) 10 116
    rw [show 2 * 10 = 20 from rfl, show 2 * 116 = 232 from rfl] at this
    rw [this, allZ_iff]
    intro j hj
    show hd (sealZ (hz l)) (10 + j) = 0
    rw [hh _ (by omega)]
    exact ah _ (by omega)
  have hA : readA (sealZ (hz l)) = true := by unfold readA; rw [z0, hh 2 (by omega), hh 3 (by omega), a2, a3, sumB_seal, zn]; rfl
  have hE : readE (sealZ (hz l)) = 0 := by
    unfold readE
    rw [hA, if_pos rfl, hh 4 (by omega), hh 5 (by omega), hh 6 (by omega), hh 7 (by omega), a4, a5, a6, a7, z16, hm, if_pos rfl, if_pos hn]
  refine ⟨hE, ?_⟩
  unfold readV
  rw [if_pos hE, hh 4 (by omega), hh 5 (by omega), hh 6 (by omega), hh 7 (by omega), a4, a5, a6, a7, z16]
theorem allB_congr {p q : Nat → Bool} {n : Nat} (h : ∀ k, k < n → p k = q k) : allB p n = allB q n := by
  induction n with
  | zero => rfl
  | succ n ih => show (allB p n && p n) = (allB q n && q n); rw [ih fun k hk => h k (by omega), h n (by omega)]
theorem mayD_congr {G S I J : Int} {n : Nat} {b i d b' i' d' : Nat → Int} (h : ∀ k, k < n → b k = b' k ∧ i k = i' k ∧ d k = d' k) : mayD G S I J n b i d = mayD G S I J n b' i' d' := by
  unfold mayD
  rw [allB_congr fun k hk => by rw [(h k hk).1, (h k hk).2.1, (h k hk).2.2]]
/-- descriptors' block is read as just those -/
theorem desc_back {G S I J : Int} {n : Nat} {b i d : Nat → Int} (h : descOk G S I J n b i d = true) :
    rdOk G S I J (descZ G S I J n b i d) = true ∧ G.toNat = n ∧ ∀ k, k < n → rB (descZ G S I J n b i d) k = b k ∧ rI (descZ G S I J n b i d) k = i k ∧ rD (descZ G S I J n b i d) k = d k := by
  obtain ⟨hm, hd'⟩ := descOk_iff.1 h
  obtain ⟨hn, hn4, hall⟩ := mayD_iff hm hd'
  have hv := dH_hvs hall
  rw [descZ_yes h]
  have hh : ∀ k, k < 126 → hd (sealZ (hz (dH b i d n))) k = dH b i d n k := fun k hk => hd_seal hv hk
  have hGn : G.toNat = n := by omega
  have hr : ∀ k, k < n → rB (sealZ (hz (dH b i d n))) k = b k ∧ rI (sealZ (hz (dH b i d n))) k = i k ∧ rD (sealZ (hz (dH b i d n))) k = d k := by
    intro k hk
    refine ⟨?_, ?_, ?_⟩
    · rw [rB, hh _ (by omega), dH_eq, if_pos (by omega), if_pos (by omega), show 4 * k / 4 = k by omega]
    · rw [rI, hh _ (by omega), dH_eq, if_pos (by omega), if_neg (by omega), if_pos (by omega), show (4 * k + 1) / 4 = k by omega]
    · rw [rD, hh _ (by omega), dH_eq, if_pos (by omega), if_neg (by omega), if_neg (by omega), if_pos (by omega), show (4 * k + 2) / 4 = k by omega]
  refine ⟨?_, hGn, hr⟩
  unfold rdOk rdIn
  rw [hm, hGn, sumB_seal]
  have zn : allZ (fun j => sealZ (hz (dH b i d n)) (8 * n + j)) (252 - 8 * n) = true := by
    have := allZ_hd (sealZ_byt (hz_byt (dH b i d n))) (4 * n) (126 - 4 * n)
    rw [show 2 * (4 * n) = 8 * n by omega, show 2 * (126 - 4 * n) = 252 - 8 * n by omega] at this
    rw [this, allZ_iff]
    intro j hj
    show hd (sealZ (hz (dH b i d n))) (4 * n + j) = 0
    rw [hh _ (by omega), dH_eq, if_neg (by omega)]
  have zb : allB (fun k => hd (sealZ (hz (dH b i d n))) (4 * k + 3) == 0) n = true := (allB_iff _ _).2 fun k hk => by
    show (hd (sealZ (hz (dH b i d n))) (4 * k + 3) == 0) = true
    rw [hh _ (by omega), dH_eq, if_pos (by omega), if_neg (by omega), if_neg (by omega), if_neg (by omega)]; rfl
  rw [zn, zb, mayD_congr hr, hd']
  rfl
/-- a byte is put over with something -/
def xorAt (z : Nat → Int) (j : Nat) (v : Int) : Nat → Int := over z j 1 (fun _ => v)
end Go.Proofs.YtnbmmhoofilmfaaDoor
