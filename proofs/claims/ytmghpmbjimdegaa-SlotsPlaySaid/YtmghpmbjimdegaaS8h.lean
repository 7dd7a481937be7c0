/- The plain law of slots: what a block tells behind an add or a remove. -/
import Derived.Test.YtmghpmbjimdegaaS8g
namespace Go.Proofs.Ytmghpmbjimdegaa
open Go.RowKit
set_option linter.unusedVariables false

theorem ba_ext {s t : ByteArray} (h : s.data.toList = t.data.toList) : s = t := by
  cases s; cases t; congr; exact Array.toList_inj.1 h
theorem slot_congr {y x : Nat → Int} (h : ∀ j, j < 32 → y j = x j) : sOk y = sOk x ∧ slI y = slI x ∧ slN y = slN x := by
  have hI : sIno y = sIno x := by unfold sIno g32; rw [h 0 (by decide), h 1 (by decide), h 2 (by decide), h 3 (by decide)]
  have hL : sLen y = sLen x := by unfold sLen; rw [h 4 (by decide)]
  have hN : sLen x ≤ 27 → sNm y = sNm x := fun h27 => by
    unfold sNm
    rw [hL]
    congr 1
    apply List.map_congr_left
    intro j hj
    rw [List.mem_range] at hj
    exact h _ (by omega)
  have hO : sOk y = sOk x := by
    unfold sOk
    rw [hI, hL]
    split
    · rw [Bool.eq_iff_iff, allZ_iff, allZ_iff]
      constructor
      · intro hh j hj; rw [← h j hj]; exact hh j hj
      · intro hh j hj; rw [h j hj]; exact hh j hj
    · by_cases h27 : sLen x ≤ 27
      · rw [hN h27]
        congr 2
        rw [Bool.eq_iff_iff, allZ_iff, allZ_iff]
        constructor
        · intro hh j hj; rw [← h _ (by omega)]; exact hh j hj
        · intro hh j hj; rw [h _ (by omega)]; exact hh j hj
      · rw [decide_eq_false h27]; rfl
  refine ⟨hO, by unfold slI; rw [hO, hI], ?_⟩
  unfold slN
  rw [hO, hI]
  split
  · rename_i hc
    rw [Bool.and_eq_true, bne_iff_ne] at hc
    apply hN
    have := hc.1
    unfold sOk at this
    rw [if_neg hc.2, Bool.and_eq_true, decide_eq_true_eq] at this
    exact this.1
  · rfl
theorem putS_same (z : Nat → Int) (i : Nat) (y : Nat → Int) (j : Nat) (hj : j < 32) : sl (putS z i y) i j = y j := by
  unfold sl putS over
  rw [if_pos (by omega), show 32 * i + j - 32 * i = j by omega]
theorem putS_other (z : Nat → Int) {i k : Nat} (hik : i ≠ k) (y : Nat → Int) (j : Nat) (hj : j < 32) : sl (putS z i y) k j = sl z k j := by
  unfold sl putS over
  rw [if_neg (by omega)]
theorem zeroS : sOk (fun _ => 0) = true ∧ slI (fun _ => 0) = 0 ∧ slN (fun _ => 0) = ByteArray.empty := by decide +kernel
theorem bz_ofNat (s : ByteArray) (j : Nat) (h : j < s.size) : UInt8.ofNat (bz s j).toNat = s.data.toList[j]'(by simpa using h) := by
  unfold bz
  have h' : j < s.data.toList.length := by simpa using h
  rw [List.getD, List.getElem?_eq_getElem h']
  simp
theorem mkS_law {s : ByteArray} {ino : Int} (hm : mayB s = true) (h0 : ino ≠ 0) (hi : 0 ≤ ino ∧ ino < 4294967296) : sOk (mkS s ino) = true ∧ slI (mkS s ino) = ino ∧ slN (mkS s ino) = s := by
  obtain ⟨h1, h27⟩ := may_size hm
  have hI : sIno (mkS s ino) = ino := by
    unfold sIno g32 mkS
    rw [if_pos (by decide), if_pos (by decide), if_pos (by decide), if_pos (by decide)]
    unfold byteOf
    simp only [Nat.zero_add, Int.pow_zero, Int.ediv_one]
    rw [show (256 : Int) ^ 1 = 256 from rfl, show (256 : Int) ^ 2 = 65536 from rfl, show (256 : Int) ^ 3 = 16777216 from rfl]
    omega
  have hL : sLen (mkS s ino) = s.size := by
    unfold sLen mkS
    rw [if_neg (by decide), if_pos rfl]; simp
  have hN : sNm (mkS s ino) = s := by
    apply ba_ext
    unfold sNm
    rw [strOfNums_data, hL, List.map_map]
    apply List.ext_getElem
    · simp
    · intro j h2 h3
      have hj : j < s.size := by simpa using h2
      simp only [List.getElem_map, List.getElem_range, Function.comp]
      rw [show mkS s ino (5 + j) = bz s j by unfold mkS; rw [if_neg (by omega), if_neg (by omega), if_pos (by omega)]; congr 1; omega, bz_ofNat s j hj]
  have hO : sOk (mkS s ino) = true := by
    unfold sOk
    rw [hI, if_neg h0, hL, hN, hm, decide_eq_true h27, Bool.true_and, Bool.and_true, allZ_iff]
    intro j hj
    unfold mkS
    rw [if_neg (by omega), if_neg (by omega), if_neg (by omega)]
  refine ⟨hO, by unfold slI; rw [hO, hI]; rfl, ?_⟩
  unfold slN
  rw [hO, hI, hN, show (ino != 0) = true by simpa using h0]; rfl

theorem rdB_iff (z : Nat → Int) (n : Nat) : rdB z n = true ↔ (∀ i, i < n → sOk (sl z i) = true) ∧ ∀ i j, j < i → i < n → dI z i ≠ 0 → dI z j ≠ 0 → dM z j ≠ dM z i := by
  induction n with
  | zero => exact ⟨fun _ => ⟨fun i hi => by omega, fun i j _ hi => by omega⟩, fun _ => rfl⟩
  | succ n ih =>
    rw [rdB_succ, Bool.and_eq_true, Bool.and_eq_true, ih, Bool.or_eq_true, beq_iff_eq, beq_iff_eq]
    constructor
    · rintro ⟨⟨h1, h2⟩, h3, h4⟩
      refine ⟨fun i hi => ?_, fun i j hj hi a b => ?_⟩
      · by_cases e : i = n
        · rw [e]; exact h3
        · exact h1 i (by omega)
      · by_cases e : i = n
        · subst e
          rcases h4 with h4 | h4
          · exact absurd h4 a
          · intro hm
            rcases firstB_cases (hitB (dI z) (dM z) (dM z i)) i with ⟨_, h5⟩ | ⟨k, _, h5, _⟩
            · have := h5 j hj
              unfold hitB at this
              rw [hm, show (dI z j != 0) = true by simpa using b] at this
              simp at this
            · omega
        · exact h2 i j hj (by omega) a b
    · rintro ⟨h1, h2⟩
      refine ⟨⟨fun i hi => h1 i (by omega), fun i j hj hi => h2 i j hj (by omega)⟩, h1 n (by omega), ?_⟩
      by_cases e : dI z n = 0
      · exact .inl e
      · refine .inr (firstB_none fun i hi => ?_)
        unfold hitB
        by_cases e2 : dI z i = 0
        · rw [e2]; rfl
        · have := h2 n i hi (by omega) e e2
          rw [Bool.and_eq_false_iff]
          right
          rw [beq_eq_false_iff_ne]
          exact fun hh => this (ba_ext hh)
theorem dirB_iff (z : Nat → Int) : dirB z = true ↔ (∀ i, i < 8 → sOk (sl z i) = true) ∧ ∀ i j, j < i → i < 8 → dI z i ≠ 0 → dI z j ≠ 0 → dM z j ≠ dM z i := rdB_iff z 8
theorem dirB_uniq {z : Nat → Int} (h : dirB z = true) {i j : Nat} (hi : i < 8) (hj : j < 8) (a : dI z i ≠ 0) (b : dI z j ≠ 0) (e : dM z i = dM z j) : i = j := by
  rw [dirB_iff] at h
  by_cases h1 : i < j
  · exact absurd e (h.2 j i h1 hj b a)
  · by_cases h2 : j < i
    · exact absurd e.symm (h.2 i j h2 hi a b)
    · omega
theorem rI_yes {z : Nat → Int} (h : dirB z = true) (i : Nat) : rI z i = dI z i := by unfold rI; rw [h]; rfl
theorem rN_yes {z : Nat → Int} (h : dirB z = true) (i : Nat) : rN z i = dM z i := by unfold rN; rw [h]; rfl
theorem hit_iff {z : Nat → Int} (h : dirB z = true) (s : ByteArray) (i : Nat) : hitB (rI z) (rN z) s i = true ↔ dI z i ≠ 0 ∧ dM z i = s := by
  unfold hitB
  rw [rI_yes h, rN_yes h, Bool.and_eq_true, bne_iff_ne, beq_iff_eq]
  exact ⟨fun hh => ⟨hh.1, ba_ext hh.2⟩, fun hh => ⟨hh.1, by rw [hh.2]⟩⟩
/-- a name is found just where it stands -/
theorem fS_at {z : Nat → Int} (h : dirB z = true) {s : ByteArray} {k : Nat} (hk : k < 8) (h0 : dI z k ≠ 0) (hs : dM z k = s) : fS z s = (k : Int) ∧ fI z s = dI z k := by
  have h1 : fS z s = (k : Int) := firstB_hit hk (fun i hi => by
    cases e : hitB (rI z) (rN z) s i with
    | false => rfl
    | true =>
      obtain ⟨a, b⟩ := (hit_iff h s i).1 e
      have := dirB_uniq h (by omega) hk a h0 (by rw [b, hs])
      omega) ((hit_iff h s k).2 ⟨h0, hs⟩)
  refine ⟨h1, ?_⟩
  unfold fI
  rw [h1, if_neg (by omega), rI_yes h]; rfl
theorem fS_no {z : Nat → Int} (h : dirB z = true) {s : ByteArray} : fS z s = -1 ↔ ∀ i, i < 8 → dI z i ≠ 0 → dM z i ≠ s := by
  constructor
  · intro hf i hi h0 hs
    rw [(fS_at h hi h0 hs).1] at hf
    omega
  · intro hh
    refine firstB_none fun i hi => ?_
    cases e : hitB (rI z) (rN z) s i with
    | false => rfl
    | true =>
      obtain ⟨a, b⟩ := (hit_iff h s i).1 e
      exact absurd b (hh i hi a)
theorem fS_cases {z : Nat → Int} (s : ByteArray) : fS z s = -1 ∨ dirB z = true ∧ ∃ k : Nat, k < 8 ∧ fS z s = (k : Int) ∧ dI z k ≠ 0 ∧ dM z k = s ∧ fI z s = dI z k := by
  rcases firstB_cases (hitB (rI z) (rN z) s) 8 with ⟨h1, _⟩ | ⟨k, hk, h1, h2, _⟩
  · exact .inl h1
  · right
    have hd : dirB z = true := by
      cases e : dirB z with
      | true => rfl
      | false =>
        unfold hitB rI at h2
        rw [e] at h2
        cases h2
    obtain ⟨a, b⟩ := (hit_iff hd s k).1 h2
    exact ⟨hd, k, hk, h1, a, b, (fS_at hd hk a b).2⟩
theorem freeS_cases {z : Nat → Int} (hd : dirB z = true) : freeS z = -1 ∧ (∀ i, i < 8 → dI z i ≠ 0) ∨ ∃ k : Nat, k < 8 ∧ freeS z = (k : Int) ∧ dI z k = 0 ∧ ∀ i, i < k → dI z i ≠ 0 := by
  unfold freeS
  rcases firstB_cases (fun i => rI z i == 0) 8 with ⟨h1, h2⟩ | ⟨k, hk, h1, h2, h3⟩
  · refine .inl ⟨h1, fun i hi => ?_⟩
    have := h2 i hi
    rw [rI_yes hd] at this
    simpa using this
  · refine .inr ⟨k, hk, h1, ?_, fun i hi => ?_⟩
    · rw [rI_yes hd] at h2; simpa using h2
    · have := h3 i hi
      rw [rI_yes hd] at this
      simpa using this

/-- what a block tells in which slot k is otherwise -/
theorem put_tells (z : Nat → Int) (k : Nat) (y : Nat → Int) : (sOk (sl (putS z k y) k) = sOk y ∧ dI (putS z k y) k = slI y ∧ dM (putS z k y) k = slN y) ∧
    ∀ i, i ≠ k → sOk (sl (putS z k y) i) = sOk (sl z i) ∧ dI (putS z k y) i = dI z i ∧ dM (putS z k y) i = dM z i :=
  ⟨slot_congr (putS_same z k y), fun i hi => slot_congr (putS_other z (Ne.symm hi) y)⟩
structure Added (z z' : Nat → Int) (s : ByteArray) (v : Int) (k : Nat) : Prop where
  lt : k < 8
  dir : dirB z = true
  may : mayB s = true
  was : dI z k = 0
  ahead : ∀ i, i < k → dI z i ≠ 0
  dir' : dirB z' = true
  ino : dI z' k = v
  name : dM z' k = s
  rest : ∀ i, i ≠ k → dI z' i = dI z i ∧ dM z' i = dM z i
  at_ : fS z' s = (k : Int)
  fi : fI z' s = v
  nz : v ≠ 0
  back : remZ z' s = z
  rem : remB z' s = true
  not : remB z s = false
  free : freeS z = (k : Int)
theorem remB_no {z : Nat → Int} {s : ByteArray} (h : fS z s = -1) : remB z s = false := by unfold remB; rw [h]; rfl
theorem remB_yes {z : Nat → Int} {s : ByteArray} {k : Nat} (h : fS z s = (k : Int)) : remB z s = true := by unfold remB; rw [h]; simp
theorem add_law {z : Nat → Int} {s : ByteArray} {ino : Int} (hi : 0 ≤ ino ∧ ino < 4294967296) (h : addE z s ino = 0) : ∃ k, Added z (addZ z s ino) s ino k := by
  obtain ⟨hd, hm, h0, hf, hfr⟩ := addE_zero h
  rcases freeS_cases hd with ⟨e, _⟩ | ⟨k, hk, hk1, hk2, hk3⟩
  · exact absurd e hfr
  have hz : addZ z s ino = putS z k (mkS s ino) := by unfold addZ; rw [if_pos h, hk1]; rfl
  obtain ⟨m1, m2, m3⟩ := mkS_law hm h0 hi
  obtain ⟨⟨p1, p2, p3⟩, p4⟩ := put_tells z k (mkS s ino)
  rw [← hz] at p1 p2 p3 p4
  rw [m1] at p1; rw [m2] at p2; rw [m3] at p3
  have hno := (fS_no hd).1 hf
  have hd' : dirB (addZ z s ino) = true := by
    rw [dirB_iff] at hd ⊢
    refine ⟨fun i hi => ?_, fun i j hj hi a b => ?_⟩
    · by_cases e : i = k
      · rw [e]; exact p1
      · rw [(p4 i e).1]; exact hd.1 i hi
    · by_cases e : i = k
      · subst e
        rw [p3, (p4 j (by omega)).2.2]
        rw [(p4 j (by omega)).2.1] at b
        exact hno j (by omega) b
      · rw [(p4 i e).2.1] at a
        rw [(p4 i e).2.2]
        by_cases e2 : j = k
        · subst e2
          rw [p3]
          exact fun hh => hno i hi a hh.symm
        · rw [(p4 j e2).2.1] at b
          rw [(p4 j e2).2.2]
          exact hd.2 i j hj hi a b
  obtain ⟨f1, f2⟩ := fS_at hd' hk (by rw [p2]; exact h0) p3
  refine ⟨k, hk, hd, hm, hk2, hk3, hd', p2, p3, fun i hi => (p4 i hi).2, f1, by rw [f2, p2], h0, ?_, remB_yes f1, remB_no hf, hk1⟩
  funext j
  unfold remZ
  rw [remB_yes f1, if_pos rfl, f1, hz, Int.toNat_natCast]
  unfold putS over
  by_cases hj : 32 * k ≤ j ∧ j < 32 * k + 32
  · rw [if_pos hj]
    have := free_zero hd hk (by rw [rI_yes hd]; exact hk2) (j - 32 * k) (by omega)
    rw [show 32 * k + (j - 32 * k) = j by omega] at this
    exact this.symm
  · rw [if_neg hj, if_neg hj]
structure Removed (z z' : Nat → Int) (s : ByteArray) (k : Nat) : Prop where
  lt : k < 8
  dir : dirB z = true
  was : dI z k ≠ 0
  name : dM z k = s
  at_ : fS z s = (k : Int)
  dir' : dirB z' = true
  ino : dI z' k = 0
  nm : dM z' k = ByteArray.empty
  rest : ∀ i, i ≠ k → dI z' i = dI z i ∧ dM z' i = dM z i
  gone : fS z' s = -1
theorem rem_law {z : Nat → Int} {s : ByteArray} (h : remB z s = true) : ∃ k, Removed z (remZ z s) s k := by
  rcases fS_cases (z := z) s with e | ⟨hd, k, hk, h1, h2, h3, _⟩
  · rw [remB_no e] at h; cases h
  have hz : remZ z s = putS z k (fun _ => 0) := by unfold remZ; rw [h, h1]; rfl
  obtain ⟨m1, m2, m3⟩ := zeroS
  obtain ⟨⟨p1, p2, p3⟩, p4⟩ := put_tells z k (fun _ => 0)
  rw [← hz] at p1 p2 p3 p4
  rw [m1] at p1; rw [m2] at p2; rw [m3] at p3
  have hd' : dirB (remZ z s) = true := by
    have hdd := (dirB_iff z).1 hd
    rw [dirB_iff]
    refine ⟨fun i hi => ?_, fun i j hj hi a b => ?_⟩
    · by_cases e : i = k
      · rw [e]; exact p1
      · rw [(p4 i e).1]; exact hdd.1 i hi
    · by_cases e : i = k
      · subst e; exact absurd p2 a
      · by_cases e2 : j = k
        · subst e2; exact absurd p2 b
        · rw [(p4 i e).2.1] at a
          rw [(p4 j e2).2.1] at b
          rw [(p4 i e).2.2, (p4 j e2).2.2]
          exact hdd.2 i j hj hi a b
  refine ⟨k, hk, hd, h2, h3, h1, hd', p2, p3, fun i hi => (p4 i hi).2, ?_⟩
  rw [fS_no hd']
  intro i hi a e
  by_cases e1 : i = k
  · subst e1; exact a p2
  · rw [(p4 i e1).2.1] at a
    rw [(p4 i e1).2.2] at e
    exact e1 (dirB_uniq hd hi hk a h2 (by rw [e, h3]))
end Go.Proofs.Ytmghpmbjimdegaa
