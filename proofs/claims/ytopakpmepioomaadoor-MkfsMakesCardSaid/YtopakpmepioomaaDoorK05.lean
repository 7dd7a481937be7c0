/- Texts of this claim, merged by a program (a claim may have 60 files): Data. -/
import Derived.Test.YtopakpmepioomaaDoorK04
/- geo.Inodes, geo.Data, quernref05.Data. -/
namespace Go.Proofs.YtopakpmepioomaaDoor
open Go.RowKit
set_option linter.unusedVariables false

/-- how many inodes there are; how many data blocks a group has -/
def nIn (G S I J : Int) : Int := if mayG G S I J then G * I else 0
def nDa (G S I J : Int) : Int := if mayG G S I J then S - 2 - I / 4 else 0
theorem GI_bd {G I : Int} (h1 : 1 ≤ G) (h2 : G ≤ 4) (h3 : 4 ≤ I) (h4 : I ≤ 64) : 4 ≤ G * I ∧ G * I ≤ 256 := by
  have h := Int.mul_le_mul h2 h4 (by omega) (by omega : (0 : Int) ≤ 4)
  have h' := Int.mul_le_mul h1 h3 (by omega) (by omega : (0 : Int) ≤ G)
  omega
theorem nIn_bd (G S I J : Int) : 0 ≤ nIn G S I J ∧ nIn G S I J ≤ 256 := by
  unfold nIn
  cases h : mayG G S I J with
  | false => simp
  | true =>
    obtain ⟨h1, h2, h3, h4, h5, h6, h7, h8, h9, h10, h11⟩ := (mayG_iff G S I J).1 h
    have := GI_bd h1 h2 h5 h6
    simp only [if_true]; omega
theorem nDa_bd (G S I J : Int) : 0 ≤ nDa G S I J ∧ nDa G S I J ≤ 512 := by
  unfold nDa
  cases h : mayG G S I J with
  | false => simp
  | true =>
    obtain ⟨h1, h2, h3, h4, h5, h6, h7, h8, h9, h10, h11⟩ := (mayG_iff G S I J).1 h
    simp only [if_true]; omega

set_option maxRecDepth 100000 in
set_option maxHeartbeats 4000000 in
theorem geoInodes_any (G S I J : Int) (w : World) : Calls Tryd.prog 76 #[gval G S I J] w fun e w' => e = .returned (.int .i64 (nIn G S I J)) ∧ Below w.heap.size w w' := by
  have HA := Lib.hid (At.new w 23 (gcells G S I J))
  have HL : Hid (Below w.heap.size w (w.alloc (.cells (gcells G S I J) 23))) := (Below.refl _ _).alloc (Nat.le_refl _) _
  go_enter Tryd.func76, Tryd.ntmps76
  have hA := HA.out
  go_wp2_with (first | (refine wp_loadAtG rfl 23 _ rfl _ _ _ rfl hA Tryd.underlying23 rfl (by kernel_rfl) ?_))
  refine (geoMay_any G S I J _).mono ?_
  rintro e w1 ⟨rfl, hb1⟩
  have hA1 := hA.below hb1 hA.lt
  have hL1 : Below w.heap.size w w1 := HL.out.trans (hb1.mono HL.out.size)
  clear hA HA HL hb1
  cases hm : mayG G S I J with
  | false =>
    have HN : Hid (nIn G S I J = 0) := by show _ = _; unfold nIn; rw [hm]; rfl
    clear hm
    go_wp2_with fail
    go_ret
    exact ⟨by rw [HN.out]; rfl, hL1⟩
  | true =>
    have HN : Hid (nIn G S I J = G * I) := by show _ = _; unfold nIn; rw [hm]; rfl
    obtain ⟨h1, h2, h3, h4, h5, h6, h7, h8, h9, h10, h11⟩ := (mayG_iff G S I J).1 hm
    have hgi := GI_bd h1 h2 h5 h6
    have hw : IntKind.i64.wrap (G * I) = G * I := IntWalk.i64_in _ (by omega)
    have c0 : w1.cell? ⟨w.heap.size, 0, none⟩ = some (.int .i64 G) := hA1.cell (i := 0) rfl
    have c2 : w1.cell? ⟨w.heap.size, 2, none⟩ = some (.int .i64 I) := hA1.cell (i := 2) rfl
    clear hm h11
    go_wp2_with fail
    go_ret
    exact ⟨by rw [HN.out]; rfl, hL1⟩

set_option maxRecDepth 100000 in
set_option maxHeartbeats 4000000 in
theorem geoData_any (G S I J : Int) (w : World) : Calls Tryd.prog 17 #[gval G S I J] w fun e w' => e = .returned (.int .i64 (nDa G S I J)) ∧ Below w.heap.size w w' := by
  have HA := Lib.hid (At.new w 23 (gcells G S I J))
  have HL : Hid (Below w.heap.size w (w.alloc (.cells (gcells G S I J) 23))) := (Below.refl _ _).alloc (Nat.le_refl _) _
  go_enter Tryd.func17, Tryd.ntmps17
  have hA := HA.out
  go_wp2_with (first | (refine wp_loadAtG rfl 23 _ rfl _ _ _ rfl hA Tryd.underlying23 rfl (by kernel_rfl) ?_))
  refine (geoMay_any G S I J _).mono ?_
  rintro e w1 ⟨rfl, hb1⟩
  have hA1 := hA.below hb1 hA.lt
  have hL1 : Below w.heap.size w w1 := HL.out.trans (hb1.mono HL.out.size)
  clear hA HA HL hb1
  cases hm : mayG G S I J with
  | false =>
    have HN : Hid (nDa G S I J = 0) := by show _ = _; unfold nDa; rw [hm]; rfl
    clear hm
    go_wp2_with fail
    go_ret
    exact ⟨by rw [HN.out]; rfl, hL1⟩
  | true =>
    have HN : Hid (nDa G S I J = S - 2 - I / 4) := by show _ = _; unfold nDa; rw [hm]; rfl
    obtain ⟨h1, h2, h3, h4, h5, h6, h7, h8, h9, h10, h11⟩ := (mayG_iff G S I J).1 hm
    have c0 : w1.cell? ⟨w.heap.size, 1, none⟩ = some (.int .i64 S) := hA1.cell (i := 1) rfl
    have c2 : w1.cell? ⟨w.heap.size, 2, none⟩ = some (.int .i64 I) := hA1.cell (i := 2) rfl
    have t1 := i64_quo4 I h5
    clear hm h11
    go_wp2_with fail
    go_ret
    exact ⟨by rw [HN.out]; rfl, hL1⟩

theorem thF_d7 (S t J i : Nat) (hS : 0 < S) (ht : 2 + t < S) : ∃ kd gr a n : Int, thF S t J i = tv kd gr a n ∧ ((kd = 7 ∧ gr = 0) ↔ (4 + J + t ≤ i ∧ i < 2 + J + S)) := by
  unfold thF
  split
  · exact ⟨_, _, _, _, rfl, by omega⟩
  split
  · exact ⟨_, _, _, _, rfl, by omega⟩
  split
  · exact ⟨_, _, _, _, rfl, by omega⟩
  have hdm := Nat.div_add_mod (i - (2 + J)) S
  have hml := Nat.mod_lt (i - (2 + J)) hS
  have hd0 : (i - (2 + J)) / S = 0 ↔ i - (2 + J) < S := Nat.div_eq_zero_iff_lt hS
  have hmd : i - (2 + J) < S → (i - (2 + J)) % S = i - (2 + J) := Nat.mod_eq_of_lt
  generalize (i - (2 + J)) % S = r at *
  generalize (i - (2 + J)) / S = q at *
  split
  · exact ⟨_, _, _, _, rfl, by constructor <;> intro h <;> omega⟩
  split
  · exact ⟨_, _, _, _, rfl, by constructor <;> intro h <;> omega⟩
  split
  · exact ⟨_, _, _, _, rfl, by constructor <;> intro h <;> omega⟩
  · exact ⟨_, _, _, _, rfl, by constructor <;> intro h <;> omega⟩

set_option maxRecDepth 100000 in
set_option maxHeartbeats 4000000 in
theorem rData5_any (G S I J : Int) (w : World) : Calls Tryd.prog 22 #[gval G S I J] w fun e w' => e = .returned (.int .i64 (nDa G S I J)) ∧ Below w.heap.size w w' := by
  have HA := Lib.hid (At.new w 23 (gcells G S I J))
  have HL : Hid (Below w.heap.size w (w.alloc (.cells (gcells G S I J) 23))) := (Below.refl _ _).alloc (Nat.le_refl _) _
  go_enter Tryd.func22, Tryd.ntmps22
  have hA := HA.out
  go_wp2_with (first | (refine wp_loadAtG rfl 23 _ rfl _ _ _ rfl hA Tryd.underlying23 rfl (by kernel_rfl) ?_))
  refine (rAll_any G S I J _).mono ?_
  rintro e w1 ⟨hb1, hlr⟩
  have hL1 : Below w.heap.size w w1 := HL.out.trans (hb1.mono HL.out.size)
  clear hA HA HL hb1
  have hfull : ∃ (n : Nat) (a : Option Addr) (cap : Nat) (q b : Nat), e = .returned (.slice a n cap) ∧ nDa G S I J = ((b - q : Nat) : Int) ∧ b ≤ n ∧ n ≤ 10000 ∧ ∀ i, i < n → ∃ g off kd gr, a = some ⟨g, off, none⟩ ∧ w1.cell? ⟨g, off + i * 4, none⟩ = some (.int .u8 kd) ∧ w1.cell? ⟨g, off + i * 4 + 1, none⟩ = some (.int .i64 gr) ∧ ((kd = 7 ∧ gr = 0) ↔ (q ≤ i ∧ i < b)) := by
    rcases hlr with ⟨hm, rfl⟩ | ⟨hm, v, rfl, hown⟩
    · exact ⟨0, none, 0, 0, 0, rfl, by unfold nDa; rw [hm]; rfl, by omega, by omega, fun i hi => by omega⟩
    · obtain ⟨a, cap, rfl⟩ := hown.form
      obtain ⟨h1, h2, h3, h4, h5, h6, h7, h8, h9, h10, h11⟩ := (mayG_iff G S I J).1 hm
      obtain ⟨g, rfl⟩ : ∃ g : Nat, G = (g : Int) := ⟨G.toNat, by omega⟩
      obtain ⟨s, rfl⟩ : ∃ s : Nat, S = (s : Int) := ⟨S.toNat, by omega⟩
      obtain ⟨t, rfl⟩ : ∃ t : Nat, I = 4 * (t : Int) := ⟨(I / 4).toNat, by omega⟩
      obtain ⟨j, rfl⟩ : ∃ j : Nat, J = (j : Int) := ⟨J.toNat, by omega⟩
      have hgs : g * s ≤ 2048 := by have := (GS_bd h1 h2 h3 h4).2; exact_mod_cast this
      have hgs1 : s ≤ g * s := Nat.le_mul_of_pos_left s (by omega)
      simp only [Int.toNat_natCast, show (4 * (t : Int)).toNat / 4 = t by omega] at hown ⊢
      refine ⟨2 + j + g * s, a, cap, 4 + j + t, 2 + j + s, rfl, by unfold nDa; rw [hm, if_pos rfl]; omega, by omega, by omega, fun i hi => ?_⟩
      have hrow := hown.row (fun i => thF_len s t j i)
      rcases hrow with h0 | ⟨b, off, rfl, hsg⟩
      · omega
      obtain ⟨kd, gr, a', n', he, hiff⟩ := thF_d7 s t j i (by omega) (by omega)
      exact ⟨b, off, kd, gr, rfl, hsg i hi 0 _ (by rw [he]; rfl), hsg i hi 1 _ (by rw [he]; rfl), hiff⟩
  obtain ⟨n, a, cap, q, b, rfl, hN, hbn, hn, hcells⟩ := hfull
  have HN := Lib.hid hN
  have HC := Lib.hid hcells
  clear hlr hN hcells
  go_wp2_with fail
  go_loop [4, 5] (fun c k => ∃ i : Nat, i ≤ n ∧ k = .int .i64 i ∧ c = .int .i64 ((min i b - q : Nat) : Int)) (fun _ k => n - (intOf k).toNat)
  case atStart => exact ⟨0, by omega, rfl, by rw [show min 0 b - q = 0 by omega]; rfl⟩
  case round =>
    obtain ⟨i, hi, rfl, rfl⟩ := hrel
    by_cases hlt : i < n
    · obtain ⟨g, off, kd, gr, rfl, hc0, hc1, hiff⟩ := HC.out i hlt
      obtain ⟨c, hc⟩ : ∃ c, min i b - q = c := ⟨_, rfl⟩
      have hcn : c ≤ 10000 := by omega
      have HX : Hid (min (i + 1) b - q = if kd = 7 ∧ gr = 0 then c + 1 else c) := by
        show _ = _
        by_cases h : kd = 7 ∧ gr = 0
        · rw [if_pos h]; have := hiff.1 h; omega
        · rw [if_neg h]
          have : ¬ (q ≤ i ∧ i < b) := fun h' => h (hiff.2 h')
          omega
      rw [hc]
      clear hiff hc
      by_cases hk : kd = 7
      · have k1 : (kd == 7) = true := by simpa using hk
        by_cases hg : gr = 0
        · have g1 : (gr == 0) = true := by simpa using hg
          have HX2 : Hid (min (i + 1) b - q = c + 1) := by show _ = _; rw [HX.out, if_pos ⟨hk, hg⟩]
          clear HX hk hg
          go_wp2_with fail
          go_round
          case rel => exact ⟨i + 1, by omega, by go_num, by rw [HX2.out]; go_num⟩
          case measure => simp [intOf]; omega
        · have g1 : (gr == 0) = false := by simpa using hg
          have HX2 : Hid (min (i + 1) b - q = c) := by show _ = _; rw [HX.out, if_neg (fun h => hg h.2)]
          clear HX hk hg
          go_wp2_with fail
          go_round
          case rel => exact ⟨i + 1, by omega, by go_num, by rw [HX2.out]⟩
          case measure => simp [intOf]; omega
      · have k1 : (kd == 7) = false := by simpa using hk
        have HX2 : Hid (min (i + 1) b - q = c) := by show _ = _; rw [HX.out, if_neg (fun h => hk h.1)]
        clear HX hk
        go_wp2_with fail
        go_round
        case rel => exact ⟨i + 1, by omega, by go_num, by rw [HX2.out]⟩
        case measure => simp [intOf]; omega
    · obtain rfl : i = n := by omega
      have hE : min i b = b := by omega
      rw [hE]
      go_wp2_with fail
      go_ret
      exact ⟨by rw [HN.out]; rfl, hL1⟩
end Go.Proofs.YtopakpmepioomaaDoor
