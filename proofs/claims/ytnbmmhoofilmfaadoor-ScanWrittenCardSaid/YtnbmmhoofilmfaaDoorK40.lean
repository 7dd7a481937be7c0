/- Texts of this claim, merged by a program (a claim may have 60 files): Sd4, Sw0, Pk19, Open15, Sw1, Sw3. -/
import Derived.Test.YtnbmmhoofilmfaaDoorK35
import Derived.Test.YtnbmmhoofilmfaaDoorK39
import Derived.Laws.OwnMore
import Derived.Test.YtnbmmhoofilmfaaDoorK04
import Derived.Deep.Slices
import Derived.ChangeSlices
import Derived.Test.YtnbmmhoofilmfaaDoorK28
import Derived.Test.YtnbmmhoofilmfaaDoorK36
import Derived.Test.YtnbmmhoofilmfaaDoorK30
/- ScanFilled, plainly: a ring of one byte has no transactions. -/
namespace Go.Proofs.YtnbmmhoofilmfaaDoor
open Go.RowKit
set_option linter.unusedVariables false

theorem seq_one {f : Int} (hf : 0 ≤ f ∧ f < 256) : seqOf (fun _ => f) = 0 := by
  have h : kindB (fun _ => f) = false := by
    unfold kindB
    have : wd (fun _ => f) 0 ≠ 1280199249 := by unfold wd g32; dsimp only; omega
    rw [beq_eq_false_iff_ne.2 this]; rfl
  unfold seqOf
  rw [h]; rfl
theorem headRd_zero : headRd (fun _ => 0) = false := by
  have hk : kindOf (fun _ => 0) = 0 := by
    have h : kindB (fun _ => 0) = false := by
      unfold kindB
      rw [wd_zero 0]
      rfl
    unfold kindOf
    rw [h]; rfl
  unfold headRd
  rw [hk]; rfl
def eF (G S I J s t f : Int) (N : Nat) : Int := fdE G S I J N (imF f J.toNat s t)
theorem imF_2 (f : Int) (j : Nat) (s t : Int) : imF f j s t 2 = headZ s t := by unfold imF; rw [if_pos rfl]
theorem eF_zero {G S I J s t f : Int} {N : Nat} (hf : 0 ≤ f ∧ f < 256) (h : eF G S I J s t f N = 0) :
    fdL J (imF f J.toNat s t) = [] ∧ hdS (imF f J.toNat s t 2) = s ∧ hdT (imF f J.toNat s t 2) = t ∧ s + 1 ≤ 2147483648 := by
  unfold eF fdE at h
  rw [imF_2] at h ⊢
  split at h
  · exact absurd h (by decide)
  rename_i hm
  split at h
  · exact absurd h (by decide)
  split at h
  · exact absurd h (by decide)
  rename_i hh
  have hr : headRd (headZ s t) = true := by
    cases e : headRd (headZ s t) with
    | true => rfl
    | false => exact absurd (.inl e) hh
  have hok : headOk s t = true := by
    cases e : headOk s t with
    | true => rfl
    | false =>
      have : headZ s t = fun _ => 0 := by unfold headZ; rw [e]; rfl
      rw [this, headRd_zero] at hr
      cases hr
  obtain ⟨_, h2, h3⟩ := head_rd hok
  have hJ : ¬ J ≤ t := fun e => hh (.inr (by rw [h3]; exact e))
  have hm' : mayG G S I J = true := by
    cases e : mayG G S I J with
    | true => rfl
    | false => exact absurd e hm
  obtain ⟨_, _, _, _, _, _, _, hj0, hj9, _⟩ := (mayG_iff G S I J).1 hm'
  have hs1 : 1 ≤ s := by
    unfold headOk at hok
    rw [Bool.and_eq_true] at hok
    exact (seqB_bd hok.1).1
  have hfd : fdL J (imF f J.toNat s t) = [] := by
    unfold fdL
    rw [imF_2, h2, h3]
    split
    · rename_i h0
      refine fnd_none (unp_seq ?_)
      show seqOf (ringL (imF f J.toNat s t) J.toNat t.toNat 0) ≠ s
      have : ringL (imF f J.toNat s t) J.toNat t.toNat 0 = fun _ => f := by
        unfold ringL
        have hlt := Nat.mod_lt (t.toNat - 1 + 0) (show 0 < J.toNat - 1 by omega)
        unfold imF imI
        rw [if_neg (by omega), if_pos (by omega)]
        rfl
      rw [this, seq_one hf]
      omega
    · rfl
  rw [hfd] at h
  refine ⟨hfd, h2, h3, ?_⟩
  rw [h2] at h
  rw [if_neg (show ¬ (([] : List Tr).all (outTr G S I J) = false) by simp), List.length_nil] at h
  by_cases hb : 2147483648 < s + ((0 : Nat) : Int) + 1
  · rw [if_pos hb] at h
    exact absurd h (by decide)
  · omega
end Go.Proofs.YtnbmmhoofilmfaaDoor

/- ScanWritten, plainly: transactions that are laid into a ring one behind the other are found. -/
namespace Go.Proofs.YtnbmmhoofilmfaaDoor
open Go.RowKit
set_option linter.unusedVariables false

/-- a block of a transaction bears its number, or none -/
theorem seq_pk {t : Tr} (ht : t.Ok) (hE : packE t = 0) (i : Nat) (hi : i ≤ t.c) : seqOf (pkB t i) = t.s ∨ seqOf (pkB t i) = 0 := by
  obtain ⟨hm, hs⟩ := packE_zero hE
  obtain ⟨_, h0, h2, h3⟩ := t.may_iff.1 hm
  have hcc : t.c = dN t.n + rN t.m := rfl
  unfold pkB
  by_cases hc : i < t.c
  · rw [if_pos hc]
    unfold pk0
    by_cases hd : i < dN t.n
    · rw [if_pos hd]
      by_cases h31 : i % 31 = 0
      · rw [if_pos h31]
        exact .inl (desc_law t.s _ _ _ (fun k => wds_of h2 ht.cb0 _) (jdOk_row hm (r := i / 31) (by unfold dN at hd; omega))).2.2.2.2.1
      · rw [if_neg h31]
        exact .inr (kind_esc _).2
    · rw [if_neg hd]
      exact .inl (revoke_law t.s _ _ (fun k => wds_of h3 ht.rv0 _) (revOk_row hm (r := i - dN t.n) (by omega))).2.2.2.2.2
  · rw [if_neg hc]
    exact .inl (commit_law t.s t.c (crcB (pk0 t) t.c) (by unfold crcB; omega) (commitOk_c hm hs)).2.2

/-- transactions stand one behind the other, from k on, up to k' -/
def LaidTo (L : Nat → Nat → Int) : Nat → Int → List Tr → Nat → Prop
  | k, _, [], k' => k = k'
  | k, s, t :: l, k' => t.Ok ∧ (∀ i, t.n ≤ i → t.cd i = fun _ => 0) ∧ packE t = 0 ∧ t.s = s ∧ (∀ i, i ≤ t.c → L (k + i) = pkB t i) ∧ LaidTo L (k + (t.c + 1)) (s + 1) l k'
theorem LaidTo.le {L : Nat → Nat → Int} : ∀ {l : List Tr} {k : Nat} {s : Int} {k' : Nat}, LaidTo L k s l k' → k ≤ k'
  | [], _, _, _, h => Nat.le_of_eq h
  | t :: l, k, s, k', h => by have := LaidTo.le h.2.2.2.2.2; omega
theorem LaidTo.congr {L L' : Nat → Nat → Int} : ∀ {l : List Tr} {k : Nat} {s : Int} {k' : Nat}, LaidTo L k s l k' → (∀ i, i < k' → L' i = L i) → LaidTo L' k s l k'
  | [], _, _, _, h, _ => h
  | t :: l, k, s, k', h, he => by
    have hle := LaidTo.le h.2.2.2.2.2
    exact ⟨h.1, h.2.1, h.2.2.1, h.2.2.2.1, fun i hi => (he _ (by omega)).trans (h.2.2.2.2.1 i hi), LaidTo.congr h.2.2.2.2.2 he⟩
theorem LaidTo.snoc {L : Nat → Nat → Int} {t : Tr} (ht : t.Ok) (hz : ∀ i, t.n ≤ i → t.cd i = fun _ => 0) (hE : packE t = 0) :
    ∀ {l : List Tr} {k : Nat} {s : Int} {k' : Nat}, LaidTo L k s l k' → t.s = s + l.length → (∀ i, i ≤ t.c → L (k' + i) = pkB t i) → LaidTo L k s (l ++ [t]) (k' + (t.c + 1))
  | [], k, s, k', h, hs, hl => by
    have h : k = k' := h
    subst h
    exact ⟨ht, hz, hE, by simpa using hs, hl, rfl⟩
  | t' :: l, k, s, k', h, hs, hl => by
    refine ⟨h.1, h.2.1, h.2.2.1, h.2.2.2.1, h.2.2.2.2.1, LaidTo.snoc ht hz hE h.2.2.2.2.2 ?_ hl⟩
    rw [hs, List.length_cons]; push_cast; omega
theorem LaidTo.laid {L : Nat → Nat → Int} {N : Nat} : ∀ {l : List Tr} {k : Nat} {s : Int} {k' : Nat}, LaidTo L k s l k' → k' ≤ N → (k' < N → seqOf (L k') ≠ s + l.length) → Laid L N k s l
  | [], k, s, k', h, hN, he => by
    have h : k = k' := h
    subst h
    exact .nil (fun hk => by simpa using he hk)
  | t :: l, k, s, k', h, hN, he => by
    have hle := LaidTo.le h.2.2.2.2.2
    refine .cons h.1 h.2.1 h.2.2.1 h.2.2.2.1 (by omega) h.2.2.2.2.1 (LaidTo.laid h.2.2.2.2.2 hN fun hk => ?_)
    have := he hk
    rw [List.length_cons] at this
    intro e
    exact this (by rw [e]; push_cast; omega)

theorem mod_two {x r : Nat} (h : x < 2 * r) : x % r = if x < r then x else x - r := by
  by_cases hx : x < r
  · rw [if_pos hx, Nat.mod_eq_of_lt hx]
  · rw [if_neg hx, Nat.mod_eq_sub_mod (by omega), Nat.mod_eq_of_lt (by omega)]
/-- the ring's blocks behind blocks that are laid into it -/
theorem ring_lay (f B : Nat → Nat → Int) {j t u k : Nat} (h1 : 1 ≤ t) (h2 : t < j) (hk : k < j - 1) : ∀ n, u + n ≤ j - 1 → ringL (layI f B j (t + u) n) j t k = if u ≤ k ∧ k < u + n then B (k - u) else ringL f j t k
  | 0, _ => by rw [if_neg (by omega)]; rfl
  | n + 1, hn => by
    have ih := ring_lay (u := u) f B h1 h2 hk n (by omega)
    show (if 3 + (t - 1 + k) % (j - 1) = 3 + (t + u + n - 1) % (j - 1) then B n else ringL (layI f B j (t + u) n) j t k) = _
    have e1 := mod_two (x := t - 1 + k) (r := j - 1) (by omega)
    have e2 := mod_two (x := t + u + n - 1) (r := j - 1) (by omega)
    rw [e1, e2, ih]
    by_cases e : k = u + n
    · subst e
      rw [if_pos (by rw [show t + u + n - 1 = t - 1 + (u + n) by omega]), if_pos (by omega), show u + n - u = n by omega]
    · have hne : ¬ (3 + (if t - 1 + k < j - 1 then t - 1 + k else t - 1 + k - (j - 1)) = 3 + if t + u + n - 1 < j - 1 then t + u + n - 1 else t + u + n - 1 - (j - 1)) := by
        split <;> split <;> omega
      rw [if_neg hne]
      by_cases hc : u ≤ k ∧ k < u + n
      · rw [if_pos hc, if_pos (by omega)]
      · rw [if_neg hc, if_neg (by omega)]
theorem lay_all {P : (Nat → Int) → Prop} {f B : Nat → Nat → Int} (hf : ∀ b, P (f b)) {j a : Nat} : ∀ n, (∀ i, i < n → P (B i)) → ∀ b, P (layI f B j a n b)
  | 0, _, b => hf b
  | n + 1, hB, b => by
    show P (if _ then _ else _)
    split
    · exact hB n (by omega)
    · exact lay_all hf n (fun i hi => hB i (by omega)) b
theorem lay_2 (f B : Nat → Nat → Int) (j a : Nat) : ∀ n, layI f B j a n 2 = f 2
  | 0 => rfl
  | n + 1 => by
    show (if _ then _ else _) = _
    rw [if_neg (by omega)]
    exact lay_2 f B j a n
/-- blocks whose numbers lie below s -/
structure Lows (f : Nat → Nat → Int) (s : Int) : Prop where
  byt : ∀ b, Byt (f b)
  low : ∀ b, seqOf (f b) < s
theorem Lows.zero {s : Int} (hs : 0 < s) : Lows (fun _ _ => 0) s := ⟨fun _ => zero_bytJ, fun _ => by rw [seq_zero]; exact hs⟩
theorem Lows.lay {f : Nat → Nat → Int} {s : Int} (h : Lows f s) {t : Tr} (ht : t.Ok) (hE : packE t = 0) (hs : t.s < s) (h0 : 0 < s) (j a : Nat) : Lows (layI f (pkB t) j a (t.c + 1)) s :=
  ⟨lay_all h.byt _ fun i _ => pkB_byt t ht i, lay_all (P := fun z => seqOf z < s) h.low _ fun i hi => by
    rcases seq_pk ht hE i (by omega) with e | e <;> rw [e]
    · exact hs
    · exact h0⟩
/-- the image while transactions are laid into the ring -/
structure PutL (f : Nat → Nat → Int) (G S I J : Int) (s : Int) (j t : Nat) (l : List Tr) (u : Nat) : Prop where
  byt : ∀ b, Byt (f b)
  head : f 2 = headZ s t
  laid : LaidTo (ringL f j t) 0 s l u
  rest : ∀ k, u ≤ k → k < j - 1 → seqOf (ringL f j t k) < s
  out : l.all (outTr G S I J) = true
  room : u ≤ j - 1
theorem PutL.zero {f : Nat → Nat → Int} {G S I J s : Int} {j t : Nat} (h : Lows f s) (hz : Byt (headZ s t)) : PutL (fun b => if b = 2 then headZ s t else f b) G S I J s j t [] 0 :=
  ⟨fun b => by show Byt (if b = 2 then headZ s t else f b); split <;> first | exact hz | exact h.byt b, rfl, rfl, fun k _ _ => by
    show seqOf (if 3 + (t - 1 + k) % (j - 1) = 2 then headZ s t else f _) < s
    rw [if_neg (by omega)]
    exact h.low _, rfl, Nat.zero_le _⟩
theorem PutL.snoc {f : Nat → Nat → Int} {G S I J s : Int} {j t : Nat} {l : List Tr} {u : Nat} (h : PutL f G S I J s j t l u) (h1 : 1 ≤ t) (h2 : t < j) {x : Tr} (hx : x.Ok) (hz : ∀ i, x.n ≤ i → x.cd i = fun _ => 0) (hE : packE x = 0) (hs : x.s = s + l.length) (ho : outTr G S I J x = true)
    (hr : u + (x.c + 1) ≤ j - 1) : PutL (layI f (pkB x) j (t + u) (x.c + 1)) G S I J s j t (l ++ [x]) (u + (x.c + 1)) :=
  ⟨lay_all h.byt _ fun i _ => pkB_byt x hx i, (lay_2 _ _ _ _ _).trans h.head,
    LaidTo.snoc hx hz hE (h.laid.congr fun i hi => by rw [ring_lay f (pkB x) h1 h2 (by omega) (x.c + 1) hr, if_neg (by omega)]) hs fun i hi => by
      rw [ring_lay f (pkB x) h1 h2 (by omega) (x.c + 1) hr, if_pos (by omega), show u + i - u = i by omega],
    fun k hk hkj => by
      rw [ring_lay f (pkB x) h1 h2 hkj (x.c + 1) hr, if_neg (by omega)]
      exact h.rest k (by omega) hkj, by rw [List.all_append, h.out]; simp [ho], hr⟩
/-- what Find tells of it -/
theorem PutL.find {f : Nat → Nat → Int} {G S I s : Int} {j t N : Nat} {l : List Tr} {u : Nat} (h : PutL f G S I (j : Int) s j t l u) (hm : mayG G S I j = true) (hN : (N : Int) = nBl G S I j) (h1 : 1 ≤ t) (h2 : t < j) (hok : headOk s t = true) (h0 : 0 ≤ s) (hl : s + l.length + 1 ≤ 2147483648) :
    fdL (j : Int) f = l ∧ fdE G S I j N f = 0 ∧ hdS (f 2) = s ∧ hdT (f 2) = t := by
  obtain ⟨e1, e2, e3⟩ := head_rd hok
  have hL : fdL (j : Int) f = l := by
    unfold fdL
    rw [h.head, e2, e3, if_pos (by omega)]
    exact fnd_laid (fun i => h.byt _) (h.laid.laid h.room fun hk => by have := h.rest u (Nat.le_refl _) hk; intro e; omega) h0 (by omega)
  refine ⟨hL, ?_, by rw [h.head, e2], by rw [h.head, e3]⟩
  unfold fdE
  rw [hL, h.head, e1, e2, e3, h.out, if_neg (by rw [hm]; decide), if_neg (by omega), if_neg (by rintro (h' | h') <;> first | exact absurd h' (by decide) | omega), if_neg (by decide), if_neg (by omega)]
end Go.Proofs.YtnbmmhoofilmfaaDoor

/- quernlaw15.blocks: some blocks. -/
namespace Go.Proofs.YtnbmmhoofilmfaaDoor
open Go.RowKit
set_option linter.unusedVariables false

/-- changes: a block, a place, what is put over it -/
def chF (xb xt xo : Nat → Int) (i : Nat) : List Value := [.int .i64 (xb i), .int .i64 (xt i), .int .u8 (xo i)]
theorem RMine.take {W : World} {base : Nat} {e : TypeId} {m : Nat} {a : Option Addr} {n cap : Nat} {f : Nat → List Value} (h : RMine W base e m (.slice a n cap) n f) (hf : ∀ i, (f i).length = m) {k : Nat} (hk : k ≤ n) : RMine W base e m (.slice a k cap) k f := by
  refine ⟨Cs_length hf k, ?_⟩
  rcases h.2 with ⟨hv, h0⟩ | ⟨g, cap', cur, hv, hb, hg, hn, hc, hs, ht⟩
  · injection hv with h1 h2 h3
    have hk0 : k = 0 := by omega
    subst h1 h3 hk0
    exact .inl ⟨rfl, rfl⟩
  · injection hv with h1 h2 h3
    subst h1 h3
    refine .inr ⟨g, cap, cur, rfl, hb, hg, by omega, hc, hs, ?_⟩
    have h1 : k * m ≤ n * m := Nat.mul_le_mul_right m hk
    have h2 : cur.toList.take (k * m) = (Cs f n).take (k * m) := by rw [← ht, List.take_take, Nat.min_eq_left h1]
    rw [h2]
    have h3 : Cs f n = Cs f k ++ Cs (fun i => f (k + i)) (n - k) := by rw [Cs_cat]; congr 1; omega
    rw [h3, List.take_left' (Cs_length hf k)]
set_option maxRecDepth 100000 in
theorem run_takeB (a : Option Addr) (len cap k : Nat) (K : Int) (hK : K = (k : Int)) (hk : k ≤ cap) (w : World) :
    (Instr.slice 24 (.slice a len cap) none (some (.int .i64 K)) none).run Tryd.prog w = .ok (.slice a k cap) w := by
  subst hK
  have hsz : (Go.sizeOf 32).run Tryd.prog w = .ok 256 w := by kernel_rfl
  rw [run_slice_h w 24 a len cap (by kernel_rfl) .i64 (k : Int) (by omega) (by omega), show Tryd.prog.elem 24 = 32 from by kernel_rfl, hsz]
  simp only [Result.andThen, sliced, Int.toNat_natCast, Nat.zero_mul, Nat.sub_zero]
  congr 2
  split
  · rfl
  · cases a with
    | none => rfl
    | some x => rw [Option.map_some]; unfold Addr.add; rw [if_pos rfl]
/-- one byte over another one -/
theorem xor_byte {a b : Int} (ha : 0 ≤ a ∧ a < 256) (hb : 0 ≤ b ∧ b < 256) : ∃ c : Int, bits .xor .u8 a b = c ∧ 0 ≤ c ∧ c < 256 := by
  have := xor_lt (a := a.toNat) (b := b.toNat) 8 (by omega) (by omega)
  exact ⟨_, u8_xor a b ha.1 ha.2 hb.1 hb.2, by omega, by omega⟩
/-- a byte of a row of blocks is turned -/
def turnB (L : Nat → Nat → Int) (k i : Nat) (v : Int) (j : Nat) : Nat → Int := if j = k then (fun x => if x = i then v else L j x) else L j
theorem turnB_byt {L : Nat → Nat → Int} (h : ∀ j, Byt (L j)) {k i : Nat} {v : Int} (hv : 0 ≤ v ∧ v < 256) (j : Nat) : Byt (turnB L k i v j) := by
  unfold turnB
  split
  · intro x
    by_cases hx : x = i
    · show 0 ≤ (if x = i then v else L j x) ∧ (if x = i then v else L j x) < 256
      rw [if_pos hx]; exact hv
    · show 0 ≤ (if x = i then v else L j x) ∧ (if x = i then v else L j x) < 256
      rw [if_neg hx]; exact h _ _
  · exact h j
theorem Cs_turn (L : Nat → Nat → Int) (k i : Nat) (v : Int) (hi : i < 256) : ∀ n, k < n → (Cs (bkF L) n).set (k * 256 + i) (.int .u8 v) = Cs (bkF (turnB L k i v)) n := by
  intro n hk
  apply List.ext_getElem?
  intro j
  have e1 : (Cs (bkF L) n).length = n * 256 := Cs_length (bkF_len _) _
  have e2 : (Cs (bkF (turnB L k i v)) n).length = n * 256 := Cs_length (bkF_len _) _
  by_cases hj : j < n * 256
  · have hq : j / 256 < n := by omega
    have hr : j % 256 < 256 := Nat.mod_lt _ (by omega)
    have hjj : j = j / 256 * 256 + j % 256 := by omega
    have g1 : (Cs (bkF (turnB L k i v)) n)[j]? = some (.int .u8 (turnB L k i v (j / 256) (j % 256))) := by
      rw [hjj, Cs_get (bkF_len _) hq hr]
      rw [show j / 256 * 256 + j % 256 = j from hjj.symm]
      exact Ks_get .u8 256 _ _ hr
    have g2 : (Cs (bkF L) n)[j]? = some (.int .u8 (L (j / 256) (j % 256))) := by
      rw [hjj, Cs_get (bkF_len _) hq hr]
      rw [show j / 256 * 256 + j % 256 = j from hjj.symm]
      exact Ks_get .u8 256 _ _ hr
    rw [g1, List.getElem?_set]
    unfold turnB
    by_cases he : k * 256 + i = j
    · rw [if_pos he, if_pos (by rw [e1]; omega), if_pos (by omega), if_pos (by omega)]
    · rw [if_neg he, g2]
      by_cases hk2 : j / 256 = k
      · rw [if_pos hk2, if_neg (by omega)]
      · rw [if_neg hk2]
  · rw [List.getElem?_eq_none (by rw [List.length_set, e1]; omega), List.getElem?_eq_none (by rw [e2]; omega)]
theorem RMine.turn {W : World} {base g n cap : Nat} {L : Nat → Nat → Int} (h : RMine W base 32 256 (.slice (some ⟨g, 0, none⟩) n cap) n (bkF L)) {k i : Nat} (hk : k < n) (hi : i < 256) (v : Int) :
    RMine (W.setCell ⟨g, k * 256 + i, none⟩ (.int .u8 v)) base 32 256 (.slice (some ⟨g, 0, none⟩) n cap) n (bkF (turnB L k i v)) := by
  have := (World.ownsRow.stored h (k * 256 + i) (.int .u8 v)).1
  rw [Cs_turn L k i v hi n hk] at this
  exact this
/-- while blocks are made -/
structure BkS (w : World) (xa : Option Addr) (nx : Nat) (xb xt xo : Nat → Int) (lb : Option Addr) (n3 : Nat) (rb rf : Nat → Int) (rm : Nat → Bool) (la : Option Addr) (N lc : Nat) (L : Nat → Nat → Int) (W : World) : Prop where
  l : RMine W (w.heap.size + 1) 32 256 (.slice la N lc) N (bkF L)
  x : RRow W xa 3 nx (chF xb xt xo)
  b : RRow W lb 3 n3 (rwF rb rf rm)
  bel : Below w.heap.size w W
  byt : ∀ j, Byt (L j)
theorem BkS.below {w : World} {xa : Option Addr} {nx : Nat} {xb xt xo : Nat → Int} {lb : Option Addr} {n3 : Nat} {rb rf : Nat → Int} {rm : Nat → Bool} {la : Option Addr} {N lc : Nat} {L : Nat → Nat → Int} {W W' : World} (h : BkS w xa nx xb xt xo lb n3 rb rf rm la N lc L W) (hb : Below W.heap.size W W') : BkS w xa nx xb xt xo lb n3 rb rf rm la N lc L W' :=
  ⟨RMine.below h.l hb, h.x.below (by intro e; cases e) hb, h.b.below (by intro e; cases e) hb, h.bel.trans (hb.mono h.bel.size), h.byt⟩
theorem RRow.ch {W : World} {b off n : Nat} {xb xt xo : Nat → Int} {k : Nat} (h : RRow W (some ⟨b, off, none⟩) 3 n (chF xb xt xo)) (hk : k < n) : W.cell? ⟨b, off + k * 3, none⟩ = some (.int .i64 (xb k)) ∧ W.cell? ⟨b, off + k * 3 + 1, none⟩ = some (.int .i64 (xt k)) ∧ W.cell? ⟨b, off + k * 3 + 2, none⟩ = some (.int .u8 (xo k)) := by
  rcases h with h | ⟨b', off', e, h⟩
  · omega
  · injection e with e; injection e with e1 e2; subst e1 e2; exact ⟨h k hk 0 _ rfl, h k hk 1 _ rfl, h k hk 2 _ rfl⟩

end Go.Proofs.YtnbmmhoofilmfaaDoor

/- Slices of numbers and of rows that came in (chapter 15). -/
namespace Go.Proofs.YtnbmmhoofilmfaaDoor
open Go.RowKit Go.ChangeShapes Go.WideShapes Go.ChangeAt Go.Deep
set_option linter.unusedVariables false

theorem ints_in {H : Type} {enc : TypeId × Value → H} {W : World} {a : Option Addr} {len cap : Nat} {d : DataW H} {p : List MemPlace} (h : DataW.Trod enc Tryd.prog W 0 (fun _ => true) true 45 (.slice a len cap) d p) :
    ∃ m : Nat → Int, RRow W a 1 len (inF m) ∧ (∀ i, -9223372036854775808 ≤ m i ∧ m i ≤ 9223372036854775807) ∧ (len : Int) ≤ 9223372036854775807 ∧ (a = none → len = 0 ∧ cap = 0) := by
  obtain ⟨fuel, hf⟩ := h
  rcases open_ints Tryd.underlying45 Tryd.underlying3 (by kernel_rfl) hf with ⟨hcs, _⟩ | ⟨x, l, c, zs, hcs, _, hl, hm, hz, _, hcell, hwz⟩
  · simp [Value.cells] at hcs
    obtain ⟨rfl, rfl, rfl⟩ := hcs
    exact ⟨fun _ => 0, .inl rfl, fun _ => ⟨(by decide : (-9223372036854775808 : Int) ≤ 0), (by decide : (0 : Int) ≤ 9223372036854775807)⟩, by omega, fun _ => ⟨rfl, rfl⟩⟩
  · simp [Value.cells] at hcs
    obtain ⟨rfl, rfl, rfl⟩ := hcs
    have hmax : maxLen = 9223372036854775807 := rfl
    have hzl : len ≤ zs.length := by rw [hz]; split <;> omega
    refine ⟨fun i => zs.getD i 0, ?_, ?_, by omega, fun h => by cases h⟩
    · by_cases h0 : len = 0
      · exact .inl h0
      · obtain ⟨b, off, spot⟩ := x
        have hc := hcell 0 (by omega)
        have hspot : spot = none := by simpa [Addr.add] using World.cell?_spot hc
        subst hspot
        refine .inr ⟨b, off, rfl, fun i hi j v hv => ?_⟩
        have hc := hcell i (by omega)
        rw [addr_add] at hc
        cases j with
        | zero => rw [Nat.mul_one, Nat.add_zero, hc]; exact hv
        | succ j => cases hv
    · intro i
      show _ ≤ zs.getD i 0 ∧ zs.getD i 0 ≤ _
      by_cases hi : i < zs.length
      · exact bounds_i64 (hwz (zs.getD i 0) (by rw [List.getD_eq_getElem?_getD, List.getElem?_eq_getElem hi]; exact List.getElem_mem _))
      · have : zs.getD i 0 = 0 := by rw [List.getD_eq_getElem?_getD, List.getElem?_eq_none (by omega)]; rfl
        rw [this]; decide
set_option maxRecDepth 100000 in
theorem rows_in {H : Type} {enc : TypeId × Value → H} {W : World} {a : Option Addr} {len cap : Nat} {d : DataW H} {p : List MemPlace} (h : DataW.Trod enc Tryd.prog W 0 (fun _ => true) true 39 (.slice a len cap) d p) :
    ∃ (rb rf : Nat → Int) (rm : Nat → Bool), RRow W a 3 len (rwF rb rf rm) ∧ (∀ i, -9223372036854775808 ≤ rb i ∧ rb i ≤ 9223372036854775807) ∧ (∀ i, 0 ≤ rf i ∧ rf i < 256) ∧ (len : Int) ≤ 9223372036854775807 ∧ (∀ b off, a = some ⟨b, off, none⟩ → 0 < len → b < W.heap.size) := by
  obtain ⟨fuel, hf⟩ := h
  rcases open_slice Tryd.underlying39 hf with ⟨hcs, _⟩ | ⟨x, l, c, m, nn, DD, Pl, hcs, _, hl, hm, hmm, _, hall⟩
  · simp [Value.cells] at hcs
    obtain ⟨rfl, rfl, rfl⟩ := hcs
    exact ⟨fun _ => 0, fun _ => 0, fun _ => false, .inl rfl, fun _ => ⟨(by decide : (-9223372036854775808 : Int) ≤ 0), (by decide : (0 : Int) ≤ 9223372036854775807)⟩, fun _ => ⟨Int.le_refl 0, (by decide : (0 : Int) < 256)⟩, by omega, fun b off e => by cases e⟩
  · simp [Value.cells] at hcs
    obtain ⟨rfl, rfl, rfl⟩ := hcs
    have hmax : maxLen = 9223372036854775807 := rfl
    have hlm : len ≤ m := by rw [hmm]; split <;> omega
    have hce : Tryd.prog.cellsOf 63 = 3 := by kernel_rfl
    rw [hce] at hall
    have key : ∀ i, i < len → ∃ (b e : Int) (g : Bool), W.cell? (x.add (i * 3)) = some (.int .i64 b) ∧ W.cell? (x.add (i * 3 + 1)) = some (.int .u8 e) ∧ W.cell? (x.add (i * 3 + 2)) = some (.bool g) ∧ (-9223372036854775808 ≤ b ∧ b ≤ 9223372036854775807) ∧ 0 ≤ e ∧ e < 256 := by
      intro i hi
      obtain ⟨cs', h1, h2⟩ := hall i (by omega)
      obtain ⟨_, hlen, hcell⟩ := World.cells?_some h1
      obtain ⟨xs, k, _, _, _, hxl, hfl⟩ := DataW.trod_struct Tryd.underlying63 h2
      match xs, hxl, cs', hlen with
      | [y0, y1, y2], _, [v0, v1, v2], _ =>
        have g0 := hfl 0 _ rfl
        have g1 := hfl 1 _ rfl
        have g2 := hfl 2 _ rfl
        have hci : Tryd.prog.cellsOf 3 = 1 := by kernel_rfl
        have hcu : Tryd.prog.cellsOf 5 = 1 := by kernel_rfl
        have hcb : Tryd.prog.cellsOf 4 = 1 := by kernel_rfl
        simp [hci, hcu, hcb] at g0 g1 g2
        obtain ⟨b, e0, _, wb⟩ := DataW.trod_int Tryd.underlying3 g0
        obtain ⟨e, e1, _, we⟩ := DataW.trod_int Tryd.underlying5 g1
        obtain ⟨g, e2, _⟩ := DataW.trod_bool Tryd.underlying4 g2
        simp at e0 e1 e2
        have bb := bounds_i64 wb
        have be := bounds_u8 we
        have c0 := hcell 0 (by omega)
        have c1 := hcell 1 (by omega)
        have c2 := hcell 2 (by omega)
        rw [add_add] at c0 c1 c2
        exact ⟨b, e, g, by simpa [e0] using c0, by simpa [e1] using c1, by simpa [e2] using c2, bb, by omega, by omega⟩
    refine ⟨fun i => if hi : i < len then (key i hi).choose else 0, fun i => if hi : i < len then (key i hi).choose_spec.choose else 0, fun i => if hi : i < len then (key i hi).choose_spec.choose_spec.choose else false, ?_, ?_, ?_, by omega, ?_⟩
    · by_cases h0 : len = 0
      · exact .inl h0
      · obtain ⟨b, off, spot⟩ := x
        have hc := (key 0 (by omega)).choose_spec.choose_spec.choose_spec.1
        have hspot : spot = none := by simpa [Addr.add] using World.cell?_spot hc
        subst hspot
        refine .inr ⟨b, off, rfl, fun i hi j v hv => ?_⟩
        have hk := (key i hi).choose_spec.choose_spec.choose_spec
        have hj3 : j < 3 := (List.getElem?_eq_some_iff.1 hv).1
        unfold rwF at hv
        simp only [hi, dif_pos] at hv
        rw [Nat.add_assoc, ← addr_add]
        obtain rfl | rfl | rfl : j = 0 ∨ j = 1 ∨ j = 2 := by omega
        · rw [← hv]; exact hk.1
        · rw [← hv]; exact hk.2.1
        · rw [← hv]; exact hk.2.2.1
    · intro i
      by_cases hi : i < len
      · simp only [hi, dif_pos]; exact (key i hi).choose_spec.choose_spec.choose_spec.2.2.2.1
      · simp only [hi, dif_neg, not_false_eq_true]; decide
    · intro i
      by_cases hi : i < len
      · simp only [hi, dif_pos]; exact (key i hi).choose_spec.choose_spec.choose_spec.2.2.2.2
      · simp only [hi, dif_neg, not_false_eq_true]; decide
    · intro b off e h0
      injection e with e
      subst e
      have hc := (key 0 h0).choose_spec.choose_spec.choose_spec.1
      exact World.block_lt_of_cell? W _ hc
set_option maxRecDepth 100000 in
theorem chs_in {H : Type} {enc : TypeId × Value → H} {W : World} {a : Option Addr} {len cap : Nat} {d : DataW H} {p : List MemPlace} (h : DataW.Trod enc Tryd.prog W 0 (fun _ => true) true 38 (.slice a len cap) d p) :
    ∃ (xb xt xo : Nat → Int), RRow W a 3 len (chF xb xt xo) ∧ (∀ i, -9223372036854775808 ≤ xb i ∧ xb i ≤ 9223372036854775807) ∧ (∀ i, -9223372036854775808 ≤ xt i ∧ xt i ≤ 9223372036854775807) ∧ (∀ i, 0 ≤ xo i ∧ xo i < 256) ∧ (len : Int) ≤ 9223372036854775807 ∧ (∀ b off, a = some ⟨b, off, none⟩ → 0 < len → b < W.heap.size) := by
  obtain ⟨fuel, hf⟩ := h
  rcases open_slice Tryd.underlying38 hf with ⟨hcs, _⟩ | ⟨x, l, c, m, nn, DD, Pl, hcs, _, hl, hm, hmm, _, hall⟩
  · simp [Value.cells] at hcs
    obtain ⟨rfl, rfl, rfl⟩ := hcs
    exact ⟨fun _ => 0, fun _ => 0, fun _ => 0, .inl rfl, fun _ => ⟨(by decide : (-9223372036854775808 : Int) ≤ 0), (by decide : (0 : Int) ≤ 9223372036854775807)⟩, fun _ => ⟨(by decide : (-9223372036854775808 : Int) ≤ 0), (by decide : (0 : Int) ≤ 9223372036854775807)⟩, fun _ => ⟨Int.le_refl 0, (by decide : (0 : Int) < 256)⟩, by omega, fun b off e => by cases e⟩
  · simp [Value.cells] at hcs
    obtain ⟨rfl, rfl, rfl⟩ := hcs
    have hmax : maxLen = 9223372036854775807 := rfl
    have hlm : len ≤ m := by rw [hmm]; split <;> omega
    have hce : Tryd.prog.cellsOf 129 = 3 := by kernel_rfl
    rw [hce] at hall
    have key : ∀ i, i < len → ∃ (b e g : Int), W.cell? (x.add (i * 3)) = some (.int .i64 b) ∧ W.cell? (x.add (i * 3 + 1)) = some (.int .i64 e) ∧ W.cell? (x.add (i * 3 + 2)) = some (.int .u8 g) ∧ (-9223372036854775808 ≤ b ∧ b ≤ 9223372036854775807) ∧ (-9223372036854775808 ≤ e ∧ e ≤ 9223372036854775807) ∧ 0 ≤ g ∧ g < 256 := by
      intro i hi
      obtain ⟨cs', h1, h2⟩ := hall i (by omega)
      obtain ⟨_, hlen, hcell⟩ := World.cells?_some h1
      obtain ⟨xs, k, _, _, _, hxl, hfl⟩ := DataW.trod_struct Tryd.underlying129 h2
      match xs, hxl, cs', hlen with
      | [y0, y1, y2], _, [v0, v1, v2], _ =>
        have g0 := hfl 0 _ rfl
        have g1 := hfl 1 _ rfl
        have g2 := hfl 2 _ rfl
        have hci : Tryd.prog.cellsOf 3 = 1 := by kernel_rfl
        have hcu : Tryd.prog.cellsOf 5 = 1 := by kernel_rfl
        simp [hci, hcu] at g0 g1 g2
        obtain ⟨b, e0, _, wb⟩ := DataW.trod_int Tryd.underlying3 g0
        obtain ⟨e, e1, _, we⟩ := DataW.trod_int Tryd.underlying3 g1
        obtain ⟨g, e2, _, wg⟩ := DataW.trod_int Tryd.underlying5 g2
        simp at e0 e1 e2
        have bb := bounds_i64 wb
        have be := bounds_i64 we
        have bg := bounds_u8 wg
        have c0 := hcell 0 (by omega)
        have c1 := hcell 1 (by omega)
        have c2 := hcell 2 (by omega)
        rw [add_add] at c0 c1 c2
        exact ⟨b, e, g, by simpa [e0] using c0, by simpa [e1] using c1, by simpa [e2] using c2, bb, be, by omega, by omega⟩
    refine ⟨fun i => if hi : i < len then (key i hi).choose else 0, fun i => if hi : i < len then (key i hi).choose_spec.choose else 0, fun i => if hi : i < len then (key i hi).choose_spec.choose_spec.choose else 0, ?_, ?_, ?_, ?_, by omega, ?_⟩
    · by_cases h0 : len = 0
      · exact .inl h0
      · obtain ⟨b, off, spot⟩ := x
        have hc := (key 0 (by omega)).choose_spec.choose_spec.choose_spec.1
        have hspot : spot = none := by simpa [Addr.add] using World.cell?_spot hc
        subst hspot
        refine .inr ⟨b, off, rfl, fun i hi j v hv => ?_⟩
        have hk := (key i hi).choose_spec.choose_spec.choose_spec
        have hj3 : j < 3 := (List.getElem?_eq_some_iff.1 hv).1
        unfold chF at hv
        simp only [hi, dif_pos] at hv
        rw [Nat.add_assoc, ← addr_add]
        obtain rfl | rfl | rfl : j = 0 ∨ j = 1 ∨ j = 2 := by omega
        · rw [← hv]; exact hk.1
        · rw [← hv]; exact hk.2.1
        · rw [← hv]; exact hk.2.2.1
    · intro i
      by_cases hi : i < len
      · simp only [hi, dif_pos]; exact (key i hi).choose_spec.choose_spec.choose_spec.2.2.2.1
      · simp only [hi, dif_neg, not_false_eq_true]; decide
    · intro i
      by_cases hi : i < len
      · simp only [hi, dif_pos]; exact (key i hi).choose_spec.choose_spec.choose_spec.2.2.2.2.1
      · simp only [hi, dif_neg, not_false_eq_true]; decide
    · intro i
      by_cases hi : i < len
      · simp only [hi, dif_pos]; exact (key i hi).choose_spec.choose_spec.choose_spec.2.2.2.2.2
      · simp only [hi, dif_neg, not_false_eq_true]; decide
    · intro b off e h0
      injection e with e
      subst e
      have hc := (key 0 h0).choose_spec.choose_spec.choose_spec.1
      exact World.block_lt_of_cell? W _ hc
end Go.Proofs.YtnbmmhoofilmfaaDoor

/- Journals and transactions, told in short, that came in. -/
namespace Go.Proofs.YtnbmmhoofilmfaaDoor
open Go.RowKit Go.ChangeShapes Go.WideShapes Go.ChangeAt Go.Deep
set_option linter.unusedVariables false

/-- a transaction that is told in short -/
structure TD where
  mo : Int
  ra : Option Addr
  rn : Nat
  rc : Nat
  rb : Nat → Int
  rf : Nat → Int
  rm : Nat → Bool
  va : Option Addr
  vn : Nat
  vc : Nat
  rv : Nat → Int
  le : Int
def TD.no : TD := ⟨0, none, 0, 0, fun _ => 0, fun _ => 0, fun _ => false, none, 0, 0, fun _ => 0, 0⟩
def TD.c (x : TD) : List Value := [.int .i64 x.mo, .slice x.ra x.rn x.rc, .slice x.va x.vn x.vc, .int .i64 x.le]
/-- what is known of it -/
structure TD.In (x : TD) (W : World) : Prop where
  r : RRow W x.ra 3 x.rn (rwF x.rb x.rf x.rm)
  v : RRow W x.va 1 x.vn (inF x.rv)
  b : ∀ i, -9223372036854775808 ≤ x.rb i ∧ x.rb i ≤ 9223372036854775807
  f : ∀ i, 0 ≤ x.rf i ∧ x.rf i < 256
  w : ∀ i, -9223372036854775808 ≤ x.rv i ∧ x.rv i ≤ 9223372036854775807
  no : x.va = none → x.vn = 0 ∧ x.vc = 0
  rl : (x.rn : Int) ≤ 9223372036854775807
  vl : (x.vn : Int) ≤ 9223372036854775807
  rx : ∀ b off, x.ra = some ⟨b, off, none⟩ → 0 < x.rn → b < W.heap.size
theorem TD.In.below {x : TD} {W W' : World} (h : x.In W) (hb : Below W.heap.size W W') : x.In W' :=
  ⟨h.r.below (by intro e; cases e) hb, h.v.below (by intro e; cases e) hb, h.b, h.f, h.w, h.no, h.rl, h.vl, fun b off e h0 => Nat.lt_of_lt_of_le (h.rx b off e h0) hb.size⟩
/-- a row of them -/
structure Tds (W : World) (a : Option Addr) (n : Nat) (D : Nat → TD) : Prop where
  row : RRow W a 4 n (fun i => (D i).c)
  all : ∀ i, i < n → (D i).In W
  len : (n : Int) ≤ 9223372036854775807
theorem Tds.below {W W' : World} {a : Option Addr} {n : Nat} {D : Nat → TD} (h : Tds W a n D) (hb : Below W.heap.size W W') : Tds W' a n D :=
  ⟨h.row.below (by intro e; cases e) hb, fun i hi => (h.all i hi).below hb, h.len⟩

set_option maxRecDepth 100000 in
theorem trs_in {H : Type} {enc : TypeId × Value → H} {W : World} {a : Option Addr} {len cap : Nat} {d : DataW H} {p : List MemPlace} (h : DataW.Trod enc Tryd.prog W 0 (fun _ => true) true 37 (.slice a len cap) d p) :
    ∃ D : Nat → TD, Tds W a len D := by
  obtain ⟨fuel, hf⟩ := h
  rcases open_slice Tryd.underlying37 hf with ⟨hcs, _⟩ | ⟨x, l, c, m, nn, DD, Pl, hcs, _, hl, hm, hmm, _, hall⟩
  · simp [Value.cells] at hcs
    obtain ⟨rfl, rfl, rfl⟩ := hcs
    exact ⟨fun _ => TD.no, .inl rfl, fun i hi => by omega, by omega⟩
  · simp [Value.cells] at hcs
    obtain ⟨rfl, rfl, rfl⟩ := hcs
    have hmax : maxLen = 9223372036854775807 := rfl
    have hlm : len ≤ m := by rw [hmm]; split <;> omega
    have hce : Tryd.prog.cellsOf 47 = 4 := by kernel_rfl
    rw [hce] at hall
    have key : ∀ i, i < len → ∃ d : TD, W.cell? (x.add (i * 4)) = some (.int .i64 d.mo) ∧ W.cell? (x.add (i * 4 + 1)) = some (.slice d.ra d.rn d.rc) ∧ W.cell? (x.add (i * 4 + 2)) = some (.slice d.va d.vn d.vc) ∧ W.cell? (x.add (i * 4 + 3)) = some (.int .i64 d.le) ∧ d.In W := by
      intro i hi
      obtain ⟨cs', h1, h2⟩ := hall i (by omega)
      obtain ⟨_, hlen, hcell⟩ := World.cells?_some h1
      obtain ⟨xs, k, _, _, _, hxl, hfl⟩ := DataW.trod_struct Tryd.underlying47 h2
      match xs, hxl, cs', hlen with
      | [y0, y1, y2, y3], _, [v0, v1, v2, v3], _ =>
        have g0 := hfl 0 _ rfl
        have g1 := hfl 1 _ rfl
        have g2 := hfl 2 _ rfl
        have g3 := hfl 3 _ rfl
        have hci : Tryd.prog.cellsOf 3 = 1 := by kernel_rfl
        have hcr : Tryd.prog.cellsOf 39 = 1 := by kernel_rfl
        have hcv : Tryd.prog.cellsOf 45 = 1 := by kernel_rfl
        simp [hci, hcr, hcv] at g0 g1 g2 g3
        obtain ⟨mo, e0, _, _⟩ := DataW.trod_int Tryd.underlying3 g0
        obtain ⟨le, e3, _, _⟩ := DataW.trod_int Tryd.underlying3 g3
        simp at e0 e3
        obtain ⟨ra, rn, rc, rfl⟩ : ∃ ra rn rc, v1 = .slice ra rn rc := by
          rcases open_slice Tryd.underlying39 g1 with ⟨e, _⟩ | ⟨x, l, c, m, nn, DD, Pl, e, _⟩
          · simp at e; exact ⟨_, _, _, e⟩
          · simp at e; exact ⟨_, _, _, e⟩
        obtain ⟨va, vn, vc, rfl⟩ : ∃ va vn vc, v2 = .slice va vn vc := by
          rcases open_slice Tryd.underlying45 g2 with ⟨e, _⟩ | ⟨x, l, c, m, nn, DD, Pl, e, _⟩
          · simp at e; exact ⟨_, _, _, e⟩
          · simp at e; exact ⟨_, _, _, e⟩
        obtain ⟨rb, rf, rm, hr, hb, hrf, hrl, hrx⟩ := rows_in (a := ra) (len := rn) (cap := rc) ⟨k, g1⟩
        obtain ⟨rv, hv, hw, hvl, hno⟩ := ints_in (a := va) (len := vn) (cap := vc) ⟨k, g2⟩
        have c0 := hcell 0 (by omega)
        have c1 := hcell 1 (by omega)
        have c2 := hcell 2 (by omega)
        have c3 := hcell 3 (by omega)
        rw [add_add] at c0 c1 c2 c3
        exact ⟨⟨mo, ra, rn, rc, rb, rf, rm, va, vn, vc, rv, le⟩, by simpa [e0] using c0, by simpa using c1, by simpa using c2, by simpa [e3] using c3, hr, hv, hb, hrf, hw, hno, hrl, hvl, hrx⟩
    refine ⟨fun i => if hi : i < len then (key i hi).choose else TD.no, ?_, fun i hi => ?_, by omega⟩
    · by_cases h0 : len = 0
      · exact .inl h0
      · obtain ⟨b, off, spot⟩ := x
        have hc := (key 0 (by omega)).choose_spec.1
        have hspot : spot = none := by simpa [Addr.add] using World.cell?_spot hc
        subst hspot
        refine .inr ⟨b, off, rfl, fun i hi j v hv => ?_⟩
        have hk := (key i hi).choose_spec
        have hj4 : j < 4 := (List.getElem?_eq_some_iff.1 hv).1
        unfold TD.c at hv
        simp only [hi, dif_pos] at hv
        rw [Nat.add_assoc, ← addr_add]
        obtain rfl | rfl | rfl | rfl : j = 0 ∨ j = 1 ∨ j = 2 ∨ j = 3 := by omega
        · rw [← hv]; exact hk.1
        · rw [← hv]; exact hk.2.1
        · rw [← hv]; exact hk.2.2.1
        · rw [← hv]; exact hk.2.2.2.1
    · simp only [hi, dif_pos]
      exact (key i hi).choose_spec.2.2.2.2

abbrev jfull (G S I J s t : Int) (ta : Option Addr) (tn tc : Nat) (ca : Option Addr) (cn cc : Nat) (oa : Option Addr) (on oc : Nat) : Array Value := #[.int .i64 G, .int .i64 S, .int .i64 I, .int .i64 J, .int .u32 s, .int .i64 t, .slice ta tn tc, .slice ca cn cc, .slice oa on oc]
set_option maxRecDepth 100000 in
theorem journal_in {H : Type} {enc : TypeId × Value → H} {W : World} {v : Value} {d : DataW H} {p : List MemPlace} (h : DataW.Trod enc Tryd.prog W 0 (fun _ => true) true 41 v d p) :
    ∃ (G S I J s t : Int) (ta : Option Addr) (tn tc : Nat) (ca : Option Addr) (cn cc : Nat) (oa : Option Addr) (on oc : Nat) (D : Nat → TD), v = .agg (jfull G S I J s t ta tn tc ca cn cc oa on oc) ∧ (∀ x ∈ [G, S, I, J], -9223372036854775808 ≤ x ∧ x ≤ 9223372036854775807) ∧
      (0 ≤ s ∧ s < 4294967296) ∧ (-9223372036854775808 ≤ t ∧ t ≤ 9223372036854775807) ∧ Tds W ta tn D := by
  obtain ⟨fuel, hf⟩ := h
  obtain ⟨xs, k, _, _, hlen, hxl, hfl⟩ := DataW.trod_struct Tryd.underlying41 hf
  have hce : Tryd.prog.cellsOf 41 = 9 := by kernel_rfl
  rw [hce] at hlen
  obtain ⟨c, hc, hcs⟩ : ∃ c : Array Value, v = .agg c ∧ c.size = 9 := by
    cases v <;> first | exact ⟨_, rfl, by simpa [Value.cells] using hlen⟩ | (exfalso; simp [Value.cells] at hlen)
  subst hc
  obtain ⟨l⟩ := c
  match l, hcs with
  | [v0, v1, v2, v3, v4, v5, v6, v7, v8], _ =>
    match xs, hxl with
    | [y0, y1, y2, y3, y4], _ =>
      have g0 := hfl 0 _ rfl
      have g1 := hfl 1 _ rfl
      have g2 := hfl 2 _ rfl
      have g3 := hfl 3 _ rfl
      have g4 := hfl 4 _ rfl
      have hcg : Tryd.prog.cellsOf 23 = 4 := by kernel_rfl
      have hch : Tryd.prog.cellsOf 36 = 2 := by kernel_rfl
      have hct : Tryd.prog.cellsOf 37 = 1 := by kernel_rfl
      have hcc : Tryd.prog.cellsOf 38 = 1 := by kernel_rfl
      have hcr : Tryd.prog.cellsOf 39 = 1 := by kernel_rfl
      have hci : Tryd.prog.cellsOf 3 = 1 := by kernel_rfl
      have hcu : Tryd.prog.cellsOf 34 = 1 := by kernel_rfl
      simp [Value.cells, hcg, hch, hct, hcc, hcr] at g0 g1 g2 g3 g4
      obtain ⟨xs0, k0, _, _, _, hxl0, hfl0⟩ := DataW.trod_struct Tryd.underlying23 g0
      obtain ⟨xs1, k1, _, _, _, hxl1, hfl1⟩ := DataW.trod_struct Tryd.underlying36 g1
      match xs0, hxl0, xs1, hxl1 with
      | [z0, z1, z2, z3], _, [z4, z5], _ =>
        have f0 := hfl0 0 _ rfl
        have f1 := hfl0 1 _ rfl
        have f2 := hfl0 2 _ rfl
        have f3 := hfl0 3 _ rfl
        have f4 := hfl1 0 _ rfl
        have f5 := hfl1 1 _ rfl
        simp [hci, hcu] at f0 f1 f2 f3 f4 f5
        obtain ⟨G, e0, _, b0⟩ := DataW.trod_int Tryd.underlying3 f0
        obtain ⟨S, e1, _, b1⟩ := DataW.trod_int Tryd.underlying3 f1
        obtain ⟨I, e2, _, b2⟩ := DataW.trod_int Tryd.underlying3 f2
        obtain ⟨J, e3, _, b3⟩ := DataW.trod_int Tryd.underlying3 f3
        obtain ⟨s, e4, _, b4⟩ := DataW.trod_int Tryd.underlying34 f4
        obtain ⟨t, e5, _, b5⟩ := DataW.trod_int Tryd.underlying3 f5
        simp at e0 e1 e2 e3 e4 e5
        subst e0 e1 e2 e3 e4 e5
        have b0 := bounds_i64 b0
        have b1 := bounds_i64 b1
        have b2 := bounds_i64 b2
        have b3 := bounds_i64 b3
        have b5 := bounds_i64 b5
        have b4 := bounds_u32 b4
        obtain ⟨ta, tn, tc, rfl⟩ : ∃ ta tn tc, v6 = .slice ta tn tc := by
          rcases open_slice Tryd.underlying37 g2 with ⟨e, _⟩ | ⟨x, l, c, m, nn, DD, Pl, e, _⟩ <;> (simp at e; exact ⟨_, _, _, e⟩)
        obtain ⟨ca, cn, cc, rfl⟩ : ∃ ta tn tc, v7 = .slice ta tn tc := by
          rcases open_slice Tryd.underlying38 g3 with ⟨e, _⟩ | ⟨x, l, c, m, nn, DD, Pl, e, _⟩ <;> (simp at e; exact ⟨_, _, _, e⟩)
        obtain ⟨oa, on, oc, rfl⟩ : ∃ ta tn tc, v8 = .slice ta tn tc := by
          rcases open_slice Tryd.underlying39 g4 with ⟨e, _⟩ | ⟨x, l, c, m, nn, DD, Pl, e, _⟩ <;> (simp at e; exact ⟨_, _, _, e⟩)
        obtain ⟨D, hD⟩ := trs_in (a := ta) (len := tn) (cap := tc) ⟨k, g2⟩
        refine ⟨G, S, I, J, s, t, ta, tn, tc, ca, cn, cc, oa, on, oc, D, rfl, ?_, by omega, b5, hD⟩
        intro x hx
        simp only [List.mem_cons, List.not_mem_nil, or_false] at hx
        rcases hx with rfl | rfl | rfl | rfl <;> assumption
end Go.Proofs.YtnbmmhoofilmfaaDoor

/- A transaction that is told in short: made, packed, asked for; lists of them compared. -/
namespace Go.Proofs.YtnbmmhoofilmfaaDoor
open Go.RowKit
set_option linter.unusedVariables false

/-- the transaction that is told in short -/
def TD.t (x : TD) (s : Int) : Tr :=
  ⟨s, x.rn, fun i => if i < x.rn then x.rb i else 0, fun i => if i < x.rn then rwD x.rf x.rm i else fun _ => 0, x.vn, fun i => if i < x.vn then x.rv i else 0⟩
theorem TD.ok {x : TD} {s : Int} {W : World} (hs : 0 ≤ s ∧ s < 4294967296) (h : x.In W) : (x.t s).Ok := by
  refine ⟨hs, fun i => ?_, fun i => ?_, fun i => ?_, h.rl, h.vl, fun i hi => ?_, fun i hi => ?_⟩
  · show _ ≤ (if i < x.rn then x.rb i else 0) ∧ (if i < x.rn then x.rb i else 0) ≤ _
    split
    · exact h.b i
    · decide
  · show Byt (if i < x.rn then _ else _)
    split
    · exact rowZ_byt (h.f i) _
    · exact zero_bytJ
  · show _ ≤ (if i < x.vn then x.rv i else 0) ∧ (if i < x.vn then x.rv i else 0) ≤ _
    split
    · exact h.w i
    · decide
  · have hi : x.rn ≤ i := hi
    show (if i < x.rn then x.rb i else 0) = 0; rw [if_neg (by omega)]
  · have hi : x.vn ≤ i := hi
    show (if i < x.vn then x.rv i else 0) = 0; rw [if_neg (by omega)]
theorem TD.z {x : TD} {s : Int} (i : Nat) (hi : (x.t s).n ≤ i) : (x.t s).cd i = fun _ => 0 := by
  have hi : x.rn ≤ i := hi
  show (if i < x.rn then _ else _) = _; rw [if_neg (by omega)]
theorem TD.cc {x : TD} {s : Int} (i : Nat) (hi : i < x.rn) : cpF x.rb (rwD x.rf x.rm) i = cpF (x.t s).cb (x.t s).cd i := by
  unfold cpF TD.t; simp only [if_pos hi]
theorem TD.vv {x : TD} {s : Int} (i : Nat) (hi : i < x.vn) : inF x.rv i = inF (x.t s).rv i := by
  unfold inF TD.t; simp only [if_pos hi]
/-- a transaction's value, whose rows are the caller's own from B on -/
structure TdV (W : World) (B : Nat) (t : Tr) (ca : Option Addr) (cc : Nat) (ra : Option Addr) (rc : Nat) : Prop where
  c : RMine W B 101 257 (.slice ca t.n cc) t.n (cpF t.cb t.cd)
  r : RMine W B 3 1 (.slice ra t.m rc) t.m (inF t.rv)
theorem TdV.below {W W' : World} {B : Nat} {t : Tr} {ca : Option Addr} {cc : Nat} {ra : Option Addr} {rc : Nat} (h : TdV W B t ca cc ra rc) (hb : Below W.heap.size W W') : TdV W' B t ca cc ra rc := ⟨h.c.below hb, h.r.below hb⟩
/-- Trans -/
theorem td_trans (x : TD) (s : Int) (hs : 0 ≤ s ∧ s < 4294967296) (w : World) (h : x.In w) (hn : x.rn ≤ 3000) (hm : x.vn ≤ 3000) : Calls Tryd.prog 15 #[.int .u32 s, .slice x.ra x.rn x.rc, .slice x.va x.vn x.vc] w fun e w' => ∃ ca cc ra rc, e = .returned (tval s ca x.rn cc ra x.vn rc) ∧
      TdV w' (w.heap.size + 1) (x.t s) ca cc ra rc ∧ Below w.heap.size w w' := by
  refine (trans15_big s hs x.ra x.rn x.rc x.rb x.rf x.rm h.f x.va x.vn x.vc x.rv hn hm h.no w h.r h.v h.rx).mono ?_
  rintro e w' ⟨ca, cc, ra, rc, he, hc, hr, hb⟩
  exact ⟨ca, cc, ra, rc, he, ⟨RMine.congr hc (g := cpF (x.t s).cb (x.t s).cd) fun i hi => TD.cc i hi, RMine.congr hr (g := inF (x.t s).rv) fun i hi => TD.vv i hi⟩, hb⟩
/-- Pack -/
theorem tv_pack (t : Tr) (ht : t.Ok) (B : Nat) (ca : Option Addr) (cc : Nat) (ra : Option Addr) (rc : Nat) (W : World) (hT : Tab W) (h : TdV W B t ca cc ra rc) :
    Calls Tryd.prog 14 #[tval t.s ca t.n cc ra t.m rc] W fun e w' => PackPost W t e w' ∧ Below W.heap.size W w' :=
  pack_any t ht ca cc ra rc W hT (RMine.row h.c (cpF_len _ _)) (RMine.row h.r (inF_len _)) (fun b off e => (World.ownsRow.lt h.c b (by rw [e]; rfl)).2) (fun b off e => (World.ownsRow.lt h.r b (by rw [e]; rfl)).2) (rcap h.c) (rcap h.r)
end Go.Proofs.YtnbmmhoofilmfaaDoor
