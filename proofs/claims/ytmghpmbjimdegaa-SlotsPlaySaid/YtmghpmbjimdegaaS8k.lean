/- The plain law of SlotsPlay: a block and the names that should be in it. -/
import Derived.Test.YtmghpmbjimdegaaS8j
namespace Go.Proofs.Ytmghpmbjimdegaa
open Go.RowKit
set_option linter.unusedVariables false

/-- how many of the first n -/
def cntB (p : Nat → Bool) : Nat → Nat
  | 0 => 0
  | n + 1 => cntB p n + if p n then 1 else 0
theorem cntB_congr {p q : Nat → Bool} {n : Nat} (h : ∀ i, i < n → p i = q i) : cntB p n = cntB q n := by
  induction n with
  | zero => rfl
  | succ n ih => unfold cntB; rw [ih fun i hi => h i (by omega), h n (by omega)]
theorem cntB_set {p q : Nat → Bool} {n k : Nat} (hk : k < n) (h : ∀ i, i ≠ k → p i = q i) (h0 : p k = false) (h1 : q k = true) : cntB q n = cntB p n + 1 := by
  induction n with
  | zero => omega
  | succ n ih =>
    unfold cntB
    by_cases e : k = n
    · subst e
      rw [h0, h1, cntB_congr (p := q) (q := p) fun i hi => (h i (by omega)).symm]; simp
    · rw [ih (by omega), h n (by omega)]; omega
theorem cntB_le (p : Nat → Bool) (n : Nat) : cntB p n ≤ n := by
  induction n with
  | zero => exact Nat.le_refl _
  | succ n ih => unfold cntB; split <;> omega
theorem cntB_full {p : Nat → Bool} {n : Nat} : cntB p n = n ↔ ∀ i, i < n → p i = true := by
  induction n with
  | zero => exact ⟨fun _ i hi => by omega, fun _ => rfl⟩
  | succ n ih =>
    have hle := cntB_le p n
    unfold cntB
    constructor
    · intro h i hi
      cases hp : p n with
      | false => rw [hp] at h; simp at h; omega
      | true =>
        rw [hp] at h
        by_cases e : i = n
        · rw [e]; exact hp
        · exact ih.1 (by simpa using h) i (by omega)
    · intro h
      rw [ih.2 fun i hi => h i (by omega), h n (by omega)]; rfl
def useB (z : Nat → Int) : Nat → Bool := fun i => dI z i != 0
/-- where a name stands last in a list; -1: nowhere -/
def atL (nm : Nat → ByteArray) (s : ByteArray) : Nat → Int
  | 0 => -1
  | k + 1 => if (nm k).toList == s.toList then (k : Int) else atL nm s k
theorem atL_cases (nm : Nat → ByteArray) (s : ByteArray) (m : Nat) : (atL nm s m = -1 ∧ ∀ k, k < m → nm k ≠ s) ∨ ∃ k, k < m ∧ atL nm s m = (k : Int) ∧ nm k = s := by
  induction m with
  | zero => exact .inl ⟨rfl, fun k hk => by omega⟩
  | succ m ih =>
    unfold atL
    cases e : ((nm m).toList == s.toList) with
    | true => exact .inr ⟨m, by omega, rfl, toList_inj (beq_iff_eq.1 e)⟩
    | false =>
      rcases ih with ⟨h1, h2⟩ | ⟨k, hk, h1, h2⟩
      · refine .inl ⟨h1, fun k hk => ?_⟩
        by_cases ek : k = m
        · subst ek; intro h; rw [h] at e; simp at e
        · exact h2 k (by omega)
      · exact .inr ⟨k, by omega, h1, h2⟩
structure Play (z : Nat → Int) (m : Nat) (nm : Nat → ByteArray) (iv : Nat → Int) : Prop where
  byt : Byt z
  dir : dirB z = true
  cnt : cntB (useB z) 8 = m
  has : ∀ k, k < m → iv k ≠ 0 ∧ ∃ j, j < 8 ∧ dI z j = iv k ∧ dM z j = nm k
  of : ∀ j, j < 8 → dI z j ≠ 0 → ∃ k, k < m ∧ nm k = dM z j
  inj : ∀ i k, i < k → k < m → nm i ≠ nm k
theorem Play.start : Play z0 0 noN noI := ⟨byt_zero, dir0, by decide +kernel, fun k hk => by omega, fun j hj h => absurd (dI0 j) h, fun i k h hk => by omega⟩
theorem Play.le {z : Nat → Int} {m : Nat} {nm : Nat → ByteArray} {iv : Nat → Int} (h : Play z m nm iv) : m ≤ 8 := by rw [← h.cnt]; exact cntB_le _ _
theorem Play.find {z : Nat → Int} {m : Nat} {nm : Nat → ByteArray} {iv : Nat → Int} (h : Play z m nm iv) {k : Nat} (hk : k < m) : ∃ j : Nat, j < 8 ∧ fS z (nm k) = (j : Int) ∧ fI z (nm k) = iv k ∧ dI z j = iv k ∧ dM z j = nm k := by
  obtain ⟨h0, j, hj, h1, h2⟩ := h.has k hk
  obtain ⟨f1, f2⟩ := fS_at h.dir hj (by rw [h1]; exact h0) h2
  exact ⟨j, hj, f1, by rw [f2, h1], h1, h2⟩
theorem Play.none {z : Nat → Int} {m : Nat} {nm : Nat → ByteArray} {iv : Nat → Int} (h : Play z m nm iv) {s : ByteArray} (hs : ∀ k, k < m → nm k ≠ s) : fS z s = -1 := by
  rw [fS_no h.dir]
  intro i hi h0 he
  obtain ⟨k, hk, hn⟩ := h.of i hi h0
  exact hs k hk (by rw [hn, he])
def delF {α : Type} (f : Nat → α) (k : Nat) : Nat → α := fun i => if i < k then f i else f (i + 1)
def addF {α : Type} (f : Nat → α) (m : Nat) (x : α) : Nat → α := fun i => if i = m then x else f i
theorem Play.remove {z : Nat → Int} {m : Nat} {nm : Nat → ByteArray} {iv : Nat → Int} (h : Play z (m + 1) nm iv) {k : Nat} (hk : k < m + 1) : remB z (nm k) = true ∧ Play (remZ z (nm k)) m (delF nm k) (delF iv k) := by
  obtain ⟨j, hj, f1, f2, g1, g2⟩ := h.find hk
  have hr := remB_yes f1
  obtain ⟨a, rm⟩ := rem_law hr
  have haj : a = j := by have := rm.at_; rw [f1] at this; omega
  subst haj
  refine ⟨hr, byt_remZ h.byt _, rm.dir', ?_, fun i hi => ?_, fun i hi h0 => ?_, fun i q hi hq => ?_⟩
  · have := cntB_set (p := useB (remZ z (nm k))) (q := useB z) hj (fun i hi => by unfold useB; rw [(rm.rest i hi).1]) (by unfold useB; rw [rm.ino]; rfl) (by unfold useB; simpa using rm.was)
    rw [h.cnt] at this
    omega
  · unfold delF
    by_cases hik : i < k
    · rw [if_pos hik, if_pos hik]
      obtain ⟨h0, q, hq, q1, q2⟩ := h.has i (by omega)
      have : q ≠ a := fun e => h.inj i k hik hk (by rw [← q2, e, g2])
      exact ⟨h0, q, hq, by rw [(rm.rest q this).1]; exact q1, by rw [(rm.rest q this).2]; exact q2⟩
    · rw [if_neg hik, if_neg hik]
      obtain ⟨h0, q, hq, q1, q2⟩ := h.has (i + 1) (by omega)
      have : q ≠ a := fun e => h.inj k (i + 1) (by omega) (by omega) (by rw [← q2, e, g2])
      exact ⟨h0, q, hq, by rw [(rm.rest q this).1]; exact q1, by rw [(rm.rest q this).2]; exact q2⟩
  · have hia : i ≠ a := fun e => h0 (by rw [e]; exact rm.ino)
    rw [(rm.rest i hia).1] at h0
    obtain ⟨q, hq, e⟩ := h.of i hi h0
    rw [(rm.rest i hia).2]
    have hqk : q ≠ k := fun e2 => hia (dirB_uniq h.dir hi hj h0 (by rw [g1]; exact (h.has k hk).1) (by rw [← e, e2, g2]))
    unfold delF
    by_cases hq2 : q < k
    · exact ⟨q, by omega, by rw [if_pos hq2]; exact e⟩
    · exact ⟨q - 1, by omega, by rw [if_neg (by omega), show q - 1 + 1 = q by omega]; exact e⟩
  · unfold delF
    by_cases h1 : i < k
    · rw [if_pos h1]
      by_cases h2 : q < k
      · rw [if_pos h2]; exact h.inj i q hi (by omega)
      · rw [if_neg h2]; exact h.inj i (q + 1) (by omega) (by omega)
    · rw [if_neg h1, if_neg (by omega)]; exact h.inj (i + 1) (q + 1) (by omega) (by omega)
theorem Play.add {z : Nat → Int} {m : Nat} {nm : Nat → ByteArray} {iv : Nat → Int} (h : Play z m nm iv) {s : ByteArray} {v : Int} (hv : v ≠ 0) (hi : 0 ≤ v ∧ v < 4294967296) (hm : mayB s = true) (hs : ∀ k, k < m → nm k ≠ s) :
    (m = 8 → addE z s v = 4) ∧ (m ≠ 8 → addE z s v = 0 ∧ Play (addZ z s v) (m + 1) (addF nm m s) (addF iv m v)) := by
  have hf := h.none hs
  have hE : addE z s v = if freeS z = -1 then 4 else 0 := by
    unfold addE
    rw [h.dir, if_neg (by decide), if_neg (by rw [hm]; rintro (h | h | h); cases h; exact hv h; exact h hf)]
  constructor
  · intro h8
    have hall := cntB_full.1 (h.cnt.trans h8)
    rw [hE]
    rcases freeS_cases h.dir with ⟨e, _⟩ | ⟨k, hk, e, h0, _⟩
    · rw [if_pos e]
    · have := hall k hk
      unfold useB at this
      rw [h0] at this; cases this
  · intro h8
    have he : addE z s v = 0 := by
      rw [hE]
      rcases freeS_cases h.dir with ⟨e, ha⟩ | ⟨k, hk, e, h0, _⟩
      · have : cntB (useB z) 8 = 8 := cntB_full.2 fun i hi => by unfold useB; simpa using ha i hi
        rw [h.cnt] at this; exact absurd this h8
      · rw [if_neg (by rw [e]; omega)]
    obtain ⟨k, ad⟩ := add_law hi he
    refine ⟨he, byt_addZ h.byt _ _, ad.dir', ?_, fun i hi => ?_, fun j hj h0 => ?_, fun i q hi hq => ?_⟩
    · have := cntB_set (p := useB z) (q := useB (addZ z s v)) ad.lt (fun i hi => by unfold useB; rw [(ad.rest i hi).1]) (by unfold useB; rw [ad.was]; rfl) (by unfold useB; rw [ad.ino]; simpa using hv)
      rw [this, h.cnt]
    · unfold addF
      by_cases e : i = m
      · rw [if_pos e, if_pos e]
        exact ⟨hv, k, ad.lt, ad.ino, ad.name⟩
      · rw [if_neg e, if_neg e]
        obtain ⟨h0, q, hq, q1, q2⟩ := h.has i (by omega)
        have : q ≠ k := fun e => h0 (by rw [← q1, e]; exact ad.was)
        exact ⟨h0, q, hq, by rw [(ad.rest q this).1]; exact q1, by rw [(ad.rest q this).2]; exact q2⟩
    · unfold addF
      by_cases e : j = k
      · subst e; exact ⟨m, by omega, by rw [if_pos rfl, ad.name]⟩
      · rw [(ad.rest j e).1] at h0
        obtain ⟨q, hq, e2⟩ := h.of j hj h0
        exact ⟨q, by omega, by rw [if_neg (by omega), (ad.rest j e).2]; exact e2⟩
    · unfold addF
      rw [if_neg (by omega)]
      by_cases e : q = m
      · rw [if_pos e]; exact hs i (by omega)
      · rw [if_neg e]; exact h.inj i q hi (by omega)
theorem Play.bad {z : Nat → Int} {m : Nat} {nm : Nat → ByteArray} {iv : Nat → Int} (h : Play z m nm iv) {s : ByteArray} {v : Int} (hb : mayB s = false ∨ ∃ k, k < m ∧ nm k = s) : addE z s v = 2 := by
  unfold addE
  rw [h.dir, if_neg (by decide), if_pos]
  rcases hb with hb | ⟨k, hk, rfl⟩
  · exact .inl hb
  · obtain ⟨j, _, f1, _⟩ := h.find hk
    exact .inr (.inr (by rw [f1]; omega))
/-- the entries as cells -/
def Ec (nm : Nat → ByteArray) (iv : Nat → Int) : Nat → List Value
  | 0 => []
  | k + 1 => Ec nm iv k ++ [.string (nm k), .int .u32 (iv k)]
theorem Ec_length (nm : Nat → ByteArray) (iv : Nat → Int) (k : Nat) : (Ec nm iv k).length = k * 2 := by
  induction k with
  | zero => rfl
  | succ k ih => simp [Ec, ih]; omega
theorem Ec_get (nm : Nat → ByteArray) (iv : Nat → Int) (k i : Nat) (hi : i < k) : (Ec nm iv k)[i * 2]? = some (.string (nm i)) ∧ (Ec nm iv k)[i * 2 + 1]? = some (.int .u32 (iv i)) := by
  induction k with
  | zero => omega
  | succ k ih =>
    unfold Ec
    by_cases h : i < k
    · obtain ⟨h1, h2⟩ := ih h
      rw [List.getElem?_append_left (by rw [Ec_length]; omega), List.getElem?_append_left (by rw [Ec_length]; omega)]
      exact ⟨h1, h2⟩
    · obtain rfl : i = k := by omega
      rw [List.getElem?_append_right (by rw [Ec_length]; omega), List.getElem?_append_right (by rw [Ec_length]; omega), Ec_length]
      simp
theorem Ec_congr {nm nm' : Nat → ByteArray} {iv iv' : Nat → Int} {k : Nat} (h : ∀ i, i < k → nm i = nm' i ∧ iv i = iv' i) : Ec nm iv k = Ec nm' iv' k := by
  induction k with
  | zero => rfl
  | succ k ih => unfold Ec; rw [ih fun i hi => h i (by omega), (h k (by omega)).1, (h k (by omega)).2]
theorem Ec_one (nm : Nat → ByteArray) (iv : Nat → Int) (k : Nat) : ∀ v ∈ Ec nm iv k, v.oneCell' = true := by
  induction k with
  | zero => intro v hv; cases hv
  | succ k ih =>
    intro v hv
    unfold Ec at hv
    rcases List.mem_append.1 hv with h | h
    · exact ih v h
    · simp only [List.mem_cons, List.not_mem_nil, or_false] at h
      rcases h with rfl | rfl <;> rfl
theorem Ec_cat (nm : Nat → ByteArray) (iv : Nat → Int) (k m : Nat) : Ec nm iv k ++ Ec (fun i => nm (k + i)) (fun i => iv (k + i)) m = Ec nm iv (k + m) := by
  induction m with
  | zero => simp [Ec]
  | succ m ih => show _ ++ (_ ++ _) = Ec nm iv (k + m) ++ _; rw [← List.append_assoc, ih]; rfl
/-- all but one -/
theorem Ec_del (nm : Nat → ByteArray) (iv : Nat → Int) (k m : Nat) (hk : k ≤ m) : Ec nm iv k ++ Ec (fun i => nm (k + 1 + i)) (fun i => iv (k + 1 + i)) (m - k) = Ec (delF nm k) (delF iv k) m := by
  have h1 : Ec nm iv k = Ec (delF nm k) (delF iv k) k := Ec_congr fun i hi => by unfold delF; rw [if_pos hi, if_pos hi]; exact ⟨rfl, rfl⟩
  have h2 : Ec (fun i => nm (k + 1 + i)) (fun i => iv (k + 1 + i)) (m - k) = Ec (fun i => delF nm k (k + i)) (fun i => delF iv k (k + i)) (m - k) := Ec_congr fun i hi => by
    unfold delF
    rw [if_neg (by omega), if_neg (by omega), show k + i + 1 = k + 1 + i by omega]; exact ⟨rfl, rfl⟩
  rw [h1, h2, Ec_cat, show k + (m - k) = m by omega]
end Go.Proofs.Ytmghpmbjimdegaa
