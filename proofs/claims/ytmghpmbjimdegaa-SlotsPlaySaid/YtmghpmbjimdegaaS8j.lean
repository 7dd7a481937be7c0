/- The plain law of SlotsEight: names that are added to an empty block one behind the other. -/
import Derived.Test.YtmghpmbjimdegaaS8i
namespace Go.Proofs.Ytmghpmbjimdegaa
open Go.RowKit
set_option linter.unusedVariables false

/-- is name i among the first k? -/
def thB (L : Nat → ByteArray) (i : Nat) : Nat → Bool
  | 0 => false
  | k + 1 => thB L i k || (L k).toList == (L i).toList
theorem toList_inj {s t : ByteArray} (h : s.toList = t.toList) : s = t := by
  rw [ByteArray.toList_eq, ByteArray.toList_eq] at h
  exact ba_ext h
theorem thB_iff (L : Nat → ByteArray) (i k : Nat) : thB L i k = true ↔ ∃ j, j < k ∧ L j = L i := by
  induction k with
  | zero => simp [thB]
  | succ k ih =>
    unfold thB
    rw [Bool.or_eq_true, ih, beq_iff_eq]
    constructor
    · rintro (⟨j, hj, h⟩ | h)
      · exact ⟨j, by omega, h⟩
      · exact ⟨k, by omega, toList_inj h⟩
    · rintro ⟨j, hj, h⟩
      by_cases e : j = k
      · subst e; exact .inr (by rw [h])
      · exact .inl ⟨j, by omega, h⟩
theorem no_name {z : Nat → Int} {i : Nat} (hd : dirB z = true) (hi : i < 8) (h : dI z i = 0) : dM z i = ByteArray.empty := by
  have hok := ((dirB_iff z).1 hd).1 i hi
  unfold dI slI at h
  rw [hok] at h
  unfold dM slN
  rw [show sIno (sl z i) = 0 from h]
  simp
structure Eight (L : Nat → ByteArray) (i n : Nat) (z : Nat → Int) : Prop where
  byt : Byt z
  dir : dirB z = true
  le : n ≤ 8
  used : ∀ j, j < n → dI z j ≠ 0 ∧ ∃ k, k < i ∧ dM z j = L k
  free : ∀ j, n ≤ j → j < 8 → dI z j = 0
  all : ∀ k, k < i → mayB (L k) = true → n = 8 ∨ remB z (L k) = true
theorem dir0 : dirB z0 = true := by decide +kernel
theorem dI0 (j : Nat) : dI z0 j = 0 := zeroS.2.1
theorem Eight.start (L : Nat → ByteArray) : Eight L 0 0 z0 := ⟨byt_zero, dir0, by omega, fun j hj => by omega, fun j _ _ => dI0 j, fun k hk => by omega⟩
theorem addZ_no {z : Nat → Int} {s : ByteArray} {v : Int} (h : addE z s v ≠ 0) : addZ z s v = z := by unfold addZ; rw [if_neg h]
theorem Eight.may {L : Nat → ByteArray} {i n : Nat} {z : Nat → Int} (h : Eight L i n z) (v : Int) (hm : mayB (L i) = false) : addE z (L i) v = 2 ∧ Eight L (i + 1) n z := by
  refine ⟨by unfold addE; rw [h.dir, hm]; simp, h.byt, h.dir, h.le, fun j hj => ?_, h.free, fun k hk hk2 => ?_⟩
  · obtain ⟨a, k, hk, e⟩ := h.used j hj
    exact ⟨a, k, by omega, e⟩
  · by_cases e : k = i
    · subst e; rw [hm] at hk2; cases hk2
    · exact h.all k (by omega) hk2
theorem Eight.hit {L : Nat → ByteArray} {i n : Nat} {z : Nat → Int} (h : Eight L i n z) (v : Int) (hm : remB z (L i) = true) : addE z (L i) v = 2 ∧ thB L i i = true ∧ Eight L (i + 1) n z := by
  obtain ⟨a, rm⟩ := rem_law hm
  refine ⟨?_, ?_, h.byt, h.dir, h.le, fun j hj => ?_, h.free, fun k hk hk2 => ?_⟩
  · unfold addE; rw [h.dir, if_neg (by decide), if_pos (.inr (.inr (by rw [rm.at_]; omega)))]
  · rw [thB_iff]
    have han : a < n := by
      by_cases e : a < n
      · exact e
      · exact absurd (h.free a (by omega) rm.lt) rm.was
    obtain ⟨_, k, hk, e⟩ := h.used a han
    exact ⟨k, hk, by rw [← e, rm.name]⟩
  · obtain ⟨a, k, hk, e⟩ := h.used j hj
    exact ⟨a, k, by omega, e⟩
  · by_cases e : k = i
    · subst e; exact .inr hm
    · exact h.all k (by omega) hk2
theorem Eight.freeS {L : Nat → ByteArray} {i n : Nat} {z : Nat → Int} (h : Eight L i n z) : freeS z = if n = 8 then -1 else (n : Int) := by
  rcases freeS_cases h.dir with ⟨e, ha⟩ | ⟨k, hk, e, h0, ha⟩
  · rw [e]
    have := h.le
    by_cases h8 : n = 8
    · rw [if_pos h8]
    · exact absurd (h.free n (by omega) (by omega)) (ha n (by omega))
  · rw [e]
    have hkn : n ≤ k := by
      by_cases hh : k < n
      · exact absurd h0 (h.used k hh).1
      · omega
    have : ¬ n < k := fun hh => ha n hh (h.free n (by omega) (by omega))
    rw [if_neg (by omega)]; omega
theorem Eight.full {L : Nat → ByteArray} {i z} (h : Eight L i 8 z) {v : Int} (hv : v ≠ 0) (hm : mayB (L i) = true) (hr : remB z (L i) = false) : addE z (L i) v = 4 ∧ Eight L (i + 1) 8 z := by
  have hf : fS z (L i) = -1 := by
    rcases fS_ge z (L i) with ⟨_, h⟩ | ⟨h, _⟩
    · exact h
    · rw [hr] at h; cases h
  refine ⟨?_, h.byt, h.dir, h.le, fun j hj => ?_, h.free, fun k hk hk2 => .inl rfl⟩
  · unfold addE
    rw [h.dir, if_neg (by decide), if_neg (by rw [hm]; rintro (h | h | h); cases h; exact hv h; exact h hf), if_pos (by rw [h.freeS]; rfl)]
  · obtain ⟨a, k, hk, e⟩ := h.used j hj
    exact ⟨a, k, by omega, e⟩
theorem Eight.add {L : Nat → ByteArray} {i n : Nat} {z : Nat → Int} (h : Eight L i n z) (hn : n ≠ 8) {v : Int} (hv : v ≠ 0) (hi : 0 ≤ v ∧ v < 4294967296) (hm : mayB (L i) = true) (hr : remB z (L i) = false) :
    addE z (L i) v = 0 ∧ thB L i i = false ∧ Added z (addZ z (L i) v) (L i) v n ∧ Eight L (i + 1) (n + 1) (addZ z (L i) v) := by
  have hf : fS z (L i) = -1 := by
    rcases fS_ge z (L i) with ⟨_, h⟩ | ⟨h, _⟩
    · exact h
    · rw [hr] at h; cases h
  have hle := h.le
  have hfr := h.freeS
  rw [if_neg hn] at hfr
  have he : addE z (L i) v = 0 := by
    unfold addE
    rw [h.dir, if_neg (by decide), if_neg (by rw [hm]; rintro (h | h | h); cases h; exact hv h; exact h hf), if_neg (by rw [hfr]; omega)]
  obtain ⟨k, ad⟩ := add_law hi he
  obtain rfl : k = n := by have := ad.free; rw [hfr] at this; omega
  refine ⟨he, ?_, ad, byt_addZ h.byt _ _, ad.dir', by omega, fun j hj => ?_, fun j h1 h2 => ?_, fun m hk hk2 => ?_⟩
  · cases e : thB L i i with
    | false => rfl
    | true =>
      obtain ⟨j, hj, hji⟩ := (thB_iff L i i).1 e
      rcases h.all j hj (by rw [hji]; exact hm) with h8 | h8
      · exact absurd h8 hn
      · rw [hji, hr] at h8; cases h8
  · by_cases e : j = k
    · subst e; exact ⟨by rw [ad.ino]; exact hv, i, by omega, ad.name⟩
    · rw [(ad.rest j e).1, (ad.rest j e).2]
      obtain ⟨a, m, hk, e⟩ := h.used j (by omega)
      exact ⟨a, m, by omega, e⟩
  · rw [(ad.rest j (by omega)).1]; exact h.free j (by omega) h2
  · by_cases e : m = i
    · subst e; exact .inr ad.rem
    · rcases h.all m (by omega) hk2 with h8 | h8
      · exact absurd h8 hn
      · right
        obtain ⟨a, rm⟩ := rem_law h8
        have hak : a ≠ k := fun e => rm.was (by rw [e]; exact ad.was)
        exact remB_yes (fS_at ad.dir' rm.lt (by rw [(ad.rest a hak).1]; exact rm.was) (by rw [(ad.rest a hak).2]; exact rm.name)).1
/-- a block of one's own -/
structure E8 (w : World) (g : Nat) (z : Nat → Int) (W : World) : Prop where
  b : Blk W g 23 256 z
  bel : Below w.heap.size w W
  ge : w.heap.size ≤ g
theorem E8.below {w : World} {g : Nat} {z : Nat → Int} {W W' : World} (h : E8 w g z W) (hb : Below W.heap.size W W') : E8 w g z W' := ⟨h.b.below hb h.b.lt, h.bel.trans (hb.mono h.bel.size), h.ge⟩
theorem E8.drew {w : World} {g : Nat} {z : Nat → Int} {W : World} (h : E8 w g z W) : E8 w g z W.drew := ⟨h.b, h.bel.drew, h.ge⟩
theorem E8.put {w : World} {g : Nat} {z y : Nat → Int} {W W' : World} (h : E8 w g z W) (hB : Blk W' g 23 256 y) (hg : W.grownBy W' (some g)) : E8 w g y W' := ⟨hB, h.bel.grown hg h.bel.size (fun k e => by cases e; exact h.ge), h.ge⟩
theorem E8.new {w W : World} (h : Below w.heap.size w W) : E8 w W.heap.size z0 (W.alloc (.cells (Ks .u8 256 (fun _ => 0)).toArray 23)) := ⟨Blk.new _ _ _ _, h.alloc h.size _, h.size⟩
end Go.Proofs.Ytmghpmbjimdegaa
