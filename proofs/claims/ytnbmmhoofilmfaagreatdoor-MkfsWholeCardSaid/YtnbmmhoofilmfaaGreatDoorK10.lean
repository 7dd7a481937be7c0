/- Texts of this claim, merged by a program (a claim may have 60 files): Rw, Ref5, Data, U6a, Geo3. -/
import Derived.Test.YtnbmmhoofilmfaaGreatDoorK08
import Derived.Test.YtnbmmhoofilmfaaGreatDoorK05
import Derived.Test.YtnbmmhoofilmfaaGreatDoorK09
import Derived.Test.YtnbmmhoofilmfaaGreatDoorK07
/- Rows of structs in memory of one's own: the cells of n elements f 0, f 1, .., each of m cells. No program in sight. -/
namespace Go.Proofs.YtnbmmhoofilmfaaGreatDoor
open Go.RowKit
set_option linter.unusedVariables false

/-- the cells of n elements -/
def Cs (f : Nat → List Value) : Nat → List Value
  | 0 => []
  | k + 1 => Cs f k ++ f k
theorem Cs_succ (f : Nat → List Value) (n : Nat) : Cs f (n + 1) = Cs f n ++ f n := rfl
theorem Cs_length {f : Nat → List Value} {m : Nat} (hf : ∀ i, (f i).length = m) (n : Nat) : (Cs f n).length = n * m := by
  induction n with
  | zero => simp [Cs]
  | succ n ih => rw [Cs, List.length_append, ih, hf, Nat.succ_mul]
theorem Cs_get {f : Nat → List Value} {m : Nat} (hf : ∀ i, (f i).length = m) {n i j : Nat} (hi : i < n) (hj : j < m) : (Cs f n)[i * m + j]? = (f i)[j]? := by
  induction n with
  | zero => omega
  | succ n ih =>
    rw [Cs]
    by_cases h : i < n
    · rw [List.getElem?_append_left, ih h]
      rw [Cs_length hf]
      have : (i + 1) * m ≤ n * m := Nat.mul_le_mul_right m h
      rw [Nat.succ_mul] at this
      omega
    · obtain rfl : i = n := by omega
      rw [List.getElem?_append_right (by rw [Cs_length hf]; omega), Cs_length hf]
      congr 1; omega
theorem Cs_congr {f g : Nat → List Value} {n : Nat} (h : ∀ i, i < n → f i = g i) : Cs f n = Cs g n := by
  induction n with
  | zero => rfl
  | succ n ih => rw [Cs, Cs, ih fun i hi => h i (by omega), h n (by omega)]
theorem Cs_cat (f : Nat → List Value) (k m : Nat) : Cs f k ++ Cs (fun i => f (k + i)) m = Cs f (k + m) := by
  induction m with
  | zero => simp [Cs]
  | succ m ih => show _ ++ (_ ++ _) = Cs f (k + m) ++ _; rw [← List.append_assoc, ih]; rfl
/-- n elements stand at a place -/
def RSeg (w : World) (b off m n : Nat) (f : Nat → List Value) : Prop := ∀ i, i < n → ∀ j v, (f i)[j]? = some v → w.cell? ⟨b, off + i * m + j, none⟩ = some v
def RRow (w : World) (a : Option Addr) (m n : Nat) (f : Nat → List Value) : Prop := n = 0 ∨ ∃ b off, a = some ⟨b, off, none⟩ ∧ RSeg w b off m n f
theorem RSeg.range {w : World} {b off m n : Nat} {f : Nat → List Value} (h : RSeg w b off m n f) (i : Nat) (hi : i < n) : w.rangeAt b (off + i * m) (f i) := fun j v hv => h i hi j v hv
theorem RSeg.below {w w' : World} {b off m n : Nat} {f : Nat → List Value} (h : RSeg w b off m n f) {B : Nat} (hb : Below B w w') (hB : b < B) : RSeg w' b off m n f :=
  fun i hi j v hv => (hb.cell (p := ⟨b, off + i * m + j, none⟩) hB).trans (h i hi j v hv)
theorem RSeg.lt {w : World} {b off m n : Nat} {f : Nat → List Value} (h : RSeg w b off m n f) (hn : 0 < n) (hf : f 0 ≠ []) : b < w.heap.size := by
  cases e : f 0 with
  | nil => exact absurd e hf
  | cons x xs => exact World.block_lt_of_cell? w _ (h 0 hn 0 x (by rw [e]; rfl))
theorem RRow.below {w w' : World} {a : Option Addr} {m n : Nat} {f : Nat → List Value} (h : RRow w a m n f) (hf : f 0 ≠ []) (hb : Below w.heap.size w w') : RRow w' a m n f := by
  by_cases h0 : n = 0
  · exact .inl h0
  rcases h with h | ⟨b, off, rfl, h⟩
  · exact .inl h
  · exact .inr ⟨b, off, rfl, h.below hb (h.lt (by omega) hf)⟩
/-- a slice of n elements in memory of one's own -/
def RMine (w : World) (base : Nat) (e : TypeId) (m : Nat) (v : Value) (n : Nat) (f : Nat → List Value) : Prop := w.ownsRow base e m v n (Cs f n)
section
variable {w w' : World} {base : Nat} {e : TypeId} {m : Nat} {v : Value} {n : Nat} {f : Nat → List Value}
theorem RMine.nil (w : World) (base : Nat) (e : TypeId) (m : Nat) (f : Nat → List Value) : RMine w base e m (.slice none 0 0) 0 f := World.ownsRow_nil w base e m
theorem RMine.below (h : RMine w base e m v n f) (hb : Below w.heap.size w w') : RMine w' base e m v n f := World.ownsRow.kept h (grown_below (row := none) hb) (Classical.em _)
theorem RMine.low {base' : Nat} (h : RMine w base e m v n f) (hb : base' ≤ base) : RMine w base' e m v n f := by
  refine ⟨h.1, ?_⟩
  rcases h.2 with h' | ⟨g', cap', cur, hv, hbb, hr⟩
  · exact .inl h'
  · exact .inr ⟨g', cap', cur, hv, by omega, hr⟩
theorem RMine.form (h : RMine w base e m v n f) : ∃ a cap, v = .slice a n cap := by
  rcases h.2 with ⟨rfl, rfl⟩ | ⟨g, cap, cur, rfl, _⟩
  · exact ⟨none, 0, rfl⟩
  · exact ⟨_, cap, rfl⟩
theorem RMine.form' (h : RMine w base e m v n f) (hn : 0 < n) : ∃ g cap, v = .slice (some ⟨g, 0, none⟩) n cap ∧ base ≤ g ∧ g < w.heap.size ∧ n ≤ cap ∧ cap ≤ maxLen := by
  rcases h.2 with ⟨_, h0⟩ | ⟨g, cap, cur, hv, hb, hg, hn, hc, _⟩
  · omega
  · exact ⟨g, cap, hv, hb, (Array.getElem?_eq_some_iff.1 hg).1, hn, hc⟩
theorem RMine.congr {g : Nat → List Value} (h : RMine w base e m v n f) (he : ∀ i, i < n → f i = g i) : RMine w base e m v n g := by
  unfold RMine; rw [← Cs_congr he]; exact h
theorem RMine.row {a : Option Addr} {cap : Nat} (h : RMine w base e m (.slice a n cap) n f) (hf : ∀ i, (f i).length = m) : RRow w a m n f := by
  rcases h.2 with ⟨hv, h0⟩ | ⟨g, cap', cur, hv, hb, hg, hn, hc, hs, ht⟩
  · exact .inl h0
  · injection hv with h1 h2 h3
    subst h1
    refine .inr ⟨g, 0, rfl, fun i hi j v hj => ?_⟩
    have hjm : j < m := by have := (List.getElem?_eq_some_iff.1 hj).1; rwa [hf] at this
    rw [← Cs_get hf hi hjm, ← ht] at hj
    have hlt := (List.getElem?_eq_some_iff.1 hj).1
    rw [List.getElem?_take_of_lt (by rw [List.length_take] at hlt; omega)] at hj
    rw [Nat.zero_add]
    exact cell_of_heap hg (by simpa using hj)
theorem RMine.seg {g cap : Nat} (h : RMine w base e m (.slice (some ⟨g, 0, none⟩) n cap) n f) (hf : ∀ i, (f i).length = m) : RSeg w g 0 m n f := by
  rcases h.row hf with h0 | ⟨b, off, he, hs⟩
  · intro i hi; omega
  · injection he with he; injection he with h1 h2; subst h1 h2; exact hs
/-- an element, or some, are appended -/
theorem RMine.append {k : Nat} {news : List Value} (h : w.ownsRow base e m v (n + k) (Cs f n ++ news)) (hk : news = Cs (fun i => f (n + i)) k) : RMine w base e m v (n + k) f := by
  unfold RMine; rw [← Cs_cat, ← hk]; exact h
end
end Go.Proofs.YtnbmmhoofilmfaaGreatDoor

/- quernref05.All, Blocks. -/
namespace Go.Proofs.YtnbmmhoofilmfaaGreatDoor
open Go.RowKit
set_option linter.unusedVariables false

set_option maxRecDepth 100000 in
set_option maxHeartbeats 4000000 in
/-- how many blocks there are -/
def nBl (G S I J : Int) : Int := if mayG G S I J then 2 + J + G * S else 0
end Go.Proofs.YtnbmmhoofilmfaaGreatDoor

/- geo.Inodes, geo.Data, quernref05.Data. -/
namespace Go.Proofs.YtnbmmhoofilmfaaGreatDoor
open Go.RowKit
set_option linter.unusedVariables false

/-- how many inodes there are; how many data blocks a group has -/
def nIn (G S I J : Int) : Int := if mayG G S I J then G * I else 0
def nDa (G S I J : Int) : Int := if mayG G S I J then S - 2 - I / 4 else 0
theorem GI_bd {G I : Int} (h1 : 1 ≤ G) (h2 : G ≤ 4) (h3 : 4 ≤ I) (h4 : I ≤ 64) : 4 ≤ G * I ∧ G * I ≤ 256 := by
  have h := Int.mul_le_mul h2 h4 (by omega) (by omega : (0 : Int) ≤ 4)
  have h' := Int.mul_le_mul h1 h3 (by omega) (by omega : (0 : Int) ≤ G)
  omega
theorem nIn_bd (G S I J : Int) : 0 ≤ nIn G S I J ∧ nIn G S I J ≤ 256 := by
  unfold nIn
  cases h : mayG G S I J with
  | false => simp
  | true =>
    obtain ⟨h1, h2, h3, h4, h5, h6, h7, h8, h9, h10, h11⟩ := (mayG_iff G S I J).1 h
    have := GI_bd h1 h2 h5 h6
    simp only [if_true]; omega
theorem nDa_bd (G S I J : Int) : 0 ≤ nDa G S I J ∧ nDa G S I J ≤ 512 := by
  unfold nDa
  cases h : mayG G S I J with
  | false => simp
  | true =>
    obtain ⟨h1, h2, h3, h4, h5, h6, h7, h8, h9, h10, h11⟩ := (mayG_iff G S I J).1 h
    simp only [if_true]; omega

set_option maxRecDepth 100000 in
set_option maxHeartbeats 4000000 in
theorem geoInodes_any (G S I J : Int) (w : World) : Calls Tryz.prog 26 #[gval G S I J] w fun e w' => e = .returned (.int .i64 (nIn G S I J)) ∧ Below w.heap.size w w' := by
  have HA := Lib.hid (At.new w 23 (gcells G S I J))
  have HL : Hid (Below w.heap.size w (w.alloc (.cells (gcells G S I J) 23))) := (Below.refl _ _).alloc (Nat.le_refl _) _
  go_enter Tryz.func26, Tryz.ntmps26
  have hA := HA.out
  go_wp2_with (first | (refine wp_loadAtG rfl 23 _ rfl _ _ _ rfl hA Tryz.underlying23 rfl (by kernel_rfl) ?_))
  refine (geoMay_any G S I J _).mono ?_
  rintro e w1 ⟨rfl, hb1⟩
  have hA1 := hA.below hb1 hA.lt
  have hL1 : Below w.heap.size w w1 := HL.out.trans (hb1.mono HL.out.size)
  clear hA HA HL hb1
  cases hm : mayG G S I J with
  | false =>
    have HN : Hid (nIn G S I J = 0) := by show _ = _; unfold nIn; rw [hm]; rfl
    clear hm
    go_wp2_with fail
    go_ret
    exact ⟨by rw [HN.out]; rfl, hL1⟩
  | true =>
    have HN : Hid (nIn G S I J = G * I) := by show _ = _; unfold nIn; rw [hm]; rfl
    obtain ⟨h1, h2, h3, h4, h5, h6, h7, h8, h9, h10, h11⟩ := (mayG_iff G S I J).1 hm
    have hgi := GI_bd h1 h2 h5 h6
    have hw : IntKind.i64.wrap (G * I) = G * I := IntWalk.i64_in _ (by omega)
    have c0 : w1.cell? ⟨w.heap.size, 0, none⟩ = some (.int .i64 G) := hA1.cell (i := 0) rfl
    have c2 : w1.cell? ⟨w.heap.size, 2, none⟩ = some (.int .i64 I) := hA1.cell (i := 2) rfl
    clear hm h11
    go_wp2_with fail
    go_ret
    exact ⟨by rw [HN.out]; rfl, hL1⟩

set_option maxRecDepth 100000 in
set_option maxHeartbeats 4000000 in
theorem geoData_any (G S I J : Int) (w : World) : Calls Tryz.prog 108 #[gval G S I J] w fun e w' => e = .returned (.int .i64 (nDa G S I J)) ∧ Below w.heap.size w w' := by
  have HA := Lib.hid (At.new w 23 (gcells G S I J))
  have HL : Hid (Below w.heap.size w (w.alloc (.cells (gcells G S I J) 23))) := (Below.refl _ _).alloc (Nat.le_refl _) _
  go_enter Tryz.func108, Tryz.ntmps108
  have hA := HA.out
  go_wp2_with (first | (refine wp_loadAtG rfl 23 _ rfl _ _ _ rfl hA Tryz.underlying23 rfl (by kernel_rfl) ?_))
  refine (geoMay_any G S I J _).mono ?_
  rintro e w1 ⟨rfl, hb1⟩
  have hA1 := hA.below hb1 hA.lt
  have hL1 : Below w.heap.size w w1 := HL.out.trans (hb1.mono HL.out.size)
  clear hA HA HL hb1
  cases hm : mayG G S I J with
  | false =>
    have HN : Hid (nDa G S I J = 0) := by show _ = _; unfold nDa; rw [hm]; rfl
    clear hm
    go_wp2_with fail
    go_ret
    exact ⟨by rw [HN.out]; rfl, hL1⟩
  | true =>
    have HN : Hid (nDa G S I J = S - 2 - I / 4) := by show _ = _; unfold nDa; rw [hm]; rfl
    obtain ⟨h1, h2, h3, h4, h5, h6, h7, h8, h9, h10, h11⟩ := (mayG_iff G S I J).1 hm
    have c0 : w1.cell? ⟨w.heap.size, 1, none⟩ = some (.int .i64 S) := hA1.cell (i := 1) rfl
    have c2 : w1.cell? ⟨w.heap.size, 2, none⟩ = some (.int .i64 I) := hA1.cell (i := 2) rfl
    have t1 := i64_quo4 I h5
    clear hm h11
    go_wp2_with fail
    go_ret
    exact ⟨by rw [HN.out]; rfl, hL1⟩

end Go.Proofs.YtnbmmhoofilmfaaGreatDoor

/- super's page: what its methods leave and tell. -/
namespace Go.Proofs.YtnbmmhoofilmfaaGreatDoor
open Go.RowKit
set_option linter.unusedVariables false

theorem zero_page (W : World) : (zeroValue 117).run Tryz.prog W = .ok (.agg (Ks .u8 256 (fun _ => 0)).toArray) W := by kernel_rfl
theorem info_page : (Tryz.prog.info? 117).map (·.size) = some 256 := by kernel_rfl
theorem info_page' (z : Nat → Int) : (Tryz.prog.info? 117).map (·.size) = some (Ks .u8 256 z).toArray.size := by rw [Ks_size]; exact info_page
/-- the page's method as a function value -/
abbrev putFn (g : Nat) : Value := .func (.func 118) #[.pointer (some ⟨g, 0, none⟩)] #[]
abbrev getFn (g : Nat) : Value := .func (.func 50) #[.pointer (some ⟨g, 0, none⟩)] #[]

theorem pagePut4_any (g : Nat) (l : Nat → Int) (k : Nat) (K v : Int) (hK : K = 2 * (k : Int)) (hk : k + 2 ≤ 128) (hv : 0 ≤ v) (w : World) {T : TypeId} (hB : Blk w g T 256 (hz l)) :
    Calls Tryz.prog 117 #[.pointer (some ⟨g, 0, none⟩), .int .i64 K, .int .u32 v] w fun e w' => (∃ u, e = .returned u) ∧ Blk w' g T 256 (hz (upd2 l k v)) ∧ Only g w w' := by
  have hsa := fun W => run_sliceBlkAll g 0 W
  have HP := Lib.hid ((put32_yes g 0 256 256 K v (hz l) w (by omega) (by omega) (by omega) hv hB.seg (hB.soft 0 256)).mono (R' := fun e w' => (∃ u, e = .returned u) ∧ Blk w' g T 256 (hz (upd2 l k v)) ∧ Only g w w') fun e w' ⟨he, hp⟩ => by
    refine ⟨⟨_, he⟩, ?_, hp.only⟩
    rw [show 0 + K.toNat = 2 * k by omega] at hp
    exact (hB.puts hp).congr fun i _ => hz_put4 l k v i)
  clear hB hK
  go_enter Tryz.func117, Tryz.ntmps117
  go_wp2_with fail
  refine HP.out.mono ?_
  rintro e w1 ⟨⟨u, rfl⟩, h1, h2⟩
  go_wp2_with fail
  exact bodyPost_end (results_none rfl _ _ _) rfl ⟨⟨_, rfl⟩, h1, h2⟩
theorem pagePut_any (g : Nat) (l : Nat → Int) (k : Nat) (K v : Int) (hK : K = 2 * (k : Int)) (hk : k < 128) (hv : 0 ≤ v) (hv2 : v ≤ 65535) (w : World) {T : TypeId} (hB : Blk w g T 256 (hz l)) :
    Calls Tryz.prog 118 #[.pointer (some ⟨g, 0, none⟩), .int .i64 K, .int .i64 v] w fun e w' => (∃ u, e = .returned u) ∧ Blk w' g T 256 (hz (upd l k v)) ∧ Only g w w' := by
  have hsa := fun W => run_sliceBlkAll g 0 W
  have HP := Lib.hid ((put16_yes g 0 256 256 K v (hz l) w (by omega) (by omega) (by omega) hv hv2 hB.seg (hB.soft 0 256)).mono (R' := fun e w' => (∃ u, e = .returned u) ∧ Blk w' g T 256 (hz (upd l k v)) ∧ Only g w w') fun e w' ⟨he, hp⟩ => by
    refine ⟨⟨_, he⟩, ?_, hp.only⟩
    rw [show 0 + K.toNat = 2 * k by omega] at hp
    exact (hB.puts hp).congr fun i _ => hz_put l k v i)
  clear hB hK
  have hwr : v % 4294967296 = v := by omega
  go_enter Tryz.func118, Tryz.ntmps118
  go_wp2_with fail
  refine HP.out.mono ?_
  rintro e w1 ⟨⟨u, rfl⟩, h1, h2⟩
  go_wp2_with fail
  exact bodyPost_end (results_none rfl _ _ _) rfl ⟨⟨_, rfl⟩, h1, h2⟩
theorem pageGet4_any (g : Nat) (z : Nat → Int) (hzb : Byt z) (k : Nat) (K : Int) (hK : K = (k : Int)) (hk : k + 4 ≤ 256) (w : World) {T : TypeId} (hB : Blk w g T 256 z) :
    Calls Tryz.prog 106 #[.pointer (some ⟨g, 0, none⟩), .int .i64 K] w fun e w' => e = .returned (.int .u32 (g32 z k)) ∧ w = w' := by
  subst hK
  have hsa := fun W => run_sliceBlkAll g 0 W
  have hgt := get32_yes g 0 256 256 (k : Int) z w (by omega) (by omega) (by omega) hB.seg hzb
  rw [Int.toNat_natCast] at hgt
  have HG := Lib.hid hgt
  clear hgt
  go_enter Tryz.func106, Tryz.ntmps106
  go_wp2_with fail
  refine HG.out.mono ?_
  rintro e w1 ⟨rfl, rfl⟩
  go_wp2_with fail
  go_ret
  exact ⟨rfl, rfl⟩
theorem pageGet_any (g : Nat) (z : Nat → Int) (hzb : Byt z) (k : Nat) (K : Int) (hK : K = 2 * (k : Int)) (hk : k < 128) (w : World) {T : TypeId} (hB : Blk w g T 256 z) :
    Calls Tryz.prog 50 #[.pointer (some ⟨g, 0, none⟩), .int .i64 K] w fun e w' => e = .returned (.int .i64 (hd z k)) ∧ w = w' := by
  have hsa := fun W => run_sliceBlkAll g 0 W
  have hgt := get16_yes g 0 256 256 K z w (by omega) (by omega) (by omega) hB.seg hzb
  rw [show K.toNat = 2 * k by omega] at hgt
  have hb := g16_bd hzb (2 * k)
  have HG := Lib.hid hgt
  have HD : Hid (hd z k = g16 z (2 * k)) := rfl
  clear hgt hK
  generalize g16 z (2 * k) = x at *
  go_enter Tryz.func50, Tryz.ntmps50
  go_wp2_with fail
  refine HG.out.mono ?_
  rintro e w1 ⟨rfl, rfl⟩
  go_wp2_with fail
  go_ret
  exact ⟨by rw [HD.out]; rfl, rfl⟩
theorem pageTotal_any (g : Nat) (z : Nat → Int) (hzb : Byt z) (w : World) {T : TypeId} (hB : Blk w g T 256 z) (hT : Tab w) :
    Calls Tryz.prog 107 #[.pointer (some ⟨g, 0, none⟩)] w fun e w' => e = .returned (.int .u32 (crcZ z 252)) ∧ Below w.heap.size w w' := by
  have hsa := fun W => run_sliceBlk g 0 0 252 0 252 rfl rfl (by omega) (by omega) (by omega) W
  have HT := Lib.hid hT
  clear hT
  go_enter Tryz.func107, Tryz.ntmps107
  go_wp2_with fail
  have hP : Pieces (w.alloc (.cells #[.slice (some ⟨g, 0, none⟩) 252 256] 128)) (some ⟨w.heap.size, 0, none⟩) 1 (fun _ => 252) (fun _ => z) := ⟨fun k hk => by
    obtain rfl : k = 0 := by omega
    exact ⟨_, _, rfl, _, _, cell_of_heap (heap_alloc_new w _) rfl, .inr ⟨g, 0, rfl, ((hB.alloc _).seg.take 252 (by omega))⟩, by omega⟩⟩
  refine (crcSum_any _ 1 1 _ _ _ (by omega) hP (fun _ => hzb) (HT.out.alloc _)).mono ?_
  rintro e w1 ⟨rfl, rfl⟩
  clear hP
  go_wp2_with fail
  go_ret
  exact ⟨rfl, (Below.refl _ _).alloc (Nat.le_refl _) _⟩
theorem Blk.grown {w w' : World} {g : Nat} {T : TypeId} {n : Nat} {z : Nat → Int} {row : Option Nat} (h : Blk w g T n z) (hb : w.grownBy w' row) (hg : some g ≠ row) : Blk w' g T n z := (hb.block g h.lt hg).trans h
theorem At.grown {w w' : World} {g : Nat} {T : TypeId} {cs : Array Value} {row : Option Nat} (h : At w g T cs) (hb : w.grownBy w' row) (hg : some g ≠ row) : At w' g T cs := (hb.block g h.lt hg).trans h
theorem Tab.grown {w w' : World} (h : Tab w) {row : Option Nat} (hb : w.grownBy w' row) (hg : some 0 ≠ row) : Tab w' := fun i hi => (World.cell?_of_block (w := w) (hb.block _ h.lt hg)).trans (h i hi)
set_option maxHeartbeats 1000000 in
theorem pageSeal_any (g : Nat) (z : Nat → Int) (hzb : Byt z) (w : World) {T : TypeId} (hB : Blk w g T 256 z) (hT : Tab w) :
    Calls Tryz.prog 120 #[.pointer (some ⟨g, 0, none⟩)] w fun e w' => (∃ u, e = .returned u) ∧ Blk w' g T 256 (sealZ z) ∧ w.grownBy w' (some g) := by
  have hbd := crcZ_bd z 252
  have HS : Hid (∀ W u, Blk W g T 256 z → u = crcZ z 252 → Calls Tryz.prog 117 #[.pointer (some ⟨g, 0, none⟩), .int .i64 252, .int .u32 u] W fun e W' => (∃ u, e = .returned u) ∧ Blk W' g T 256 (sealZ z) ∧ Only g W W') := by
    rintro W u hB rfl
    refine (pagePut4_any g (hd z) 126 252 (crcZ z 252) rfl (by omega) hbd.1 W (hB.congr fun i _ => (hz_hd hzb i).symm)).mono ?_
    rintro e W' ⟨he, h1, h2⟩
    refine ⟨he, h1.congr fun i hi => ?_, h2⟩
    rw [← hz_put4]
    show over (hz (hd z)) 252 4 _ i = over z 252 4 _ i
    unfold over
    rw [hz_hd hzb]
  go_enter Tryz.func120, Tryz.ntmps120
  go_wp2_with fail
  refine (pageTotal_any g z hzb w hB hT).mono ?_
  rintro e w1 ⟨rfl, hb1⟩
  have hB1 := hB.below hb1 hB.lt
  go_wp2_with fail
  refine (HS.out w1 _ hB1 rfl).mono ?_
  rintro e w2 ⟨⟨u, rfl⟩, h1, h2⟩
  go_wp2_with fail
  exact bodyPost_end (results_none rfl _ _ _) rfl ⟨⟨_, rfl⟩, h1, grown_trans (grown_below hb1) (grown_only h2)⟩
theorem pageSealed_any (g : Nat) (z : Nat → Int) (hzb : Byt z) (w : World) {T : TypeId} (hB : Blk w g T 256 z) (hT : Tab w) :
    Calls Tryz.prog 47 #[.pointer (some ⟨g, 0, none⟩)] w fun e w' => e = .returned (.bool (sumB z)) ∧ Below w.heap.size w w' := by
  have HN : Hid (sumB z = (g32 z 252 == crcZ z 252)) := rfl
  go_enter Tryz.func47, Tryz.ntmps47
  go_wp2_with fail
  refine (pageGet4_any g z hzb 252 252 rfl (by omega) w hB).mono ?_
  rintro e w0 ⟨rfl, rfl⟩
  go_wp2_with fail
  refine (pageTotal_any g z hzb w hB hT).mono ?_
  rintro e w1 ⟨rfl, hb1⟩
  go_wp2_with fail
  go_ret
  exact ⟨by rw [HN.out]; rfl, hb1⟩
theorem pageNoughts_any (g : Nat) (z : Nat → Int) (lo hi : Nat) (L H : Int) (hL : L = (lo : Int)) (hH : H = (hi : Int)) (h1 : lo ≤ hi) (h2 : hi ≤ 256) (h3 : lo < 256) (w : World) {T : TypeId} (hB : Blk w g T 256 z) :
    Calls Tryz.prog 48 #[.pointer (some ⟨g, 0, none⟩), .int .i64 L, .int .i64 H] w fun e w' => e = .returned (.bool (allZ (fun i => z (lo + i)) (hi - lo))) ∧ w = w' := by
  have hsa := fun W => run_sliceBlk g 0 lo hi L H hL hH h1 h2 h3 W
  have HZ := Lib.hid (zero_any (some ⟨g, 0 + lo, none⟩) (hi - lo) (256 - lo) (fun i => z (lo + i)) w (by omega) (.inr ⟨g, 0 + lo, rfl, hB.seg.sub lo (hi - lo) (by omega)⟩))
  clear hL hH hB
  rw [Nat.zero_add] at hsa HZ
  go_enter Tryz.func48, Tryz.ntmps48
  go_wp2_with fail
  refine HZ.out.mono ?_
  rintro e w1 ⟨rfl, rfl⟩
  go_wp2_with fail
  go_ret
  exact ⟨rfl, rfl⟩
/-- the geometry's halves are put -/
def geoH (l : Nat → Int) (G S I J : Int) : Nat → Int := upd (upd (upd (upd l 4 G) 5 S) 6 I) 7 J
theorem geo_small {G S I J : Int} (h : mayG G S I J = true) : 0 ≤ G ∧ G ≤ 65535 ∧ 0 ≤ S ∧ S ≤ 65535 ∧ 0 ≤ I ∧ I ≤ 65535 ∧ 0 ≤ J ∧ J ≤ 65535 := by
  obtain ⟨h1, h2, h3, h4, h5, h6, h7, h8, h9, h10, h11⟩ := (mayG_iff G S I J).1 h
  omega
set_option maxRecDepth 100000 in
set_option maxHeartbeats 2000000 in
theorem putGeo_any (g : Nat) (l : Nat → Int) (G S I J : Int) (hm : mayG G S I J = true) (w : World) {T : TypeId} (hB : Blk w g T 256 (hz l)) :
    Calls Tryz.prog 119 #[gval G S I J, putFn g] w fun e w' => (∃ u, e = .returned u) ∧ Blk w' g T 256 (hz (geoH l G S I J)) ∧ w.grownBy w' (some g) := by
  obtain ⟨b1, b2, b3, b4, b5, b6, b7, b8⟩ := geo_small hm
  have HA := Lib.hid (At.new w 23 (gcells G S I J))
  have HG : Hid (w.grownBy (w.alloc (.cells (gcells G S I J) 23)) (some g)) := grown_below ((Below.refl _ _).alloc (Nat.le_refl _) _)
  have hne := hB.lt
  have HB := Lib.hid (hB.alloc (.cells (gcells G S I J) 23))
  clear hB hm
  have c0 : (w.alloc (.cells #[.int .i64 G, .int .i64 S, .int .i64 I, .int .i64 J] 23)).cell? ⟨w.heap.size, 0, none⟩ = some (.int .i64 G) := HA.out.cell (i := 0) rfl
  go_enter Tryz.func119, Tryz.ntmps119
  go_wp2_with fail
  refine (pagePut_any g l 4 8 G rfl (by omega) b1 b2 _ HB.out).mono ?_
  rintro e w1 ⟨⟨u1, rfl⟩, hB1, ho1⟩
  have hA1 : At w1 w.heap.size 23 (gcells G S I J) := HA.out.only ho1 (by omega)
  have hG1 := grown_trans HG.out (grown_only ho1)
  have c1 := hA1.cell (i := 1) rfl
  clear HB HA HG c0 ho1
  go_wp2_with fail
  refine (pagePut_any g _ 5 10 S rfl (by omega) b3 b4 _ hB1).mono ?_
  rintro e w2 ⟨⟨u2, rfl⟩, hB2, ho2⟩
  have hA2 : At w2 w.heap.size 23 (gcells G S I J) := hA1.only ho2 (by omega)
  have hG2 := grown_trans hG1 (grown_only ho2)
  have c2 := hA2.cell (i := 2) rfl
  clear hB1 hA1 hG1 c1 ho2
  go_wp2_with fail
  refine (pagePut_any g _ 6 12 I rfl (by omega) b5 b6 _ hB2).mono ?_
  rintro e w3 ⟨⟨u3, rfl⟩, hB3, ho3⟩
  have hA3 : At w3 w.heap.size 23 (gcells G S I J) := hA2.only ho3 (by omega)
  have hG3 := grown_trans hG2 (grown_only ho3)
  have c3 := hA3.cell (i := 3) rfl
  clear hB2 hA2 hG2 c2 ho3
  go_wp2_with fail
  refine (pagePut_any g _ 7 14 J rfl (by omega) b7 b8 _ hB3).mono ?_
  rintro e w4 ⟨⟨u4, rfl⟩, hB4, ho4⟩
  have hG4 := grown_trans hG3 (grown_only ho4)
  clear hB3 hA3 hG3 c3 ho4
  go_wp2_with fail
  exact bodyPost_end (results_none rfl _ _ _) rfl ⟨⟨_, rfl⟩, hB4, hG4⟩
end Go.Proofs.YtnbmmhoofilmfaaGreatDoor

/- geo.Blocks, geo.Start. -/
namespace Go.Proofs.YtnbmmhoofilmfaaGreatDoor
open Go.RowKit
set_option linter.unusedVariables false

set_option maxHeartbeats 2000000 in
theorem geoBlocks_any (G S I J : Int) (w : World) : Calls Tryz.prog 30 #[gval G S I J] w fun e w' => e = .returned (.int .i64 (nBl G S I J)) ∧ Below w.heap.size w w' := by
  have HA := Lib.hid (At.new w 23 (gcells G S I J))
  have HL : Hid (Below w.heap.size w (w.alloc (.cells (gcells G S I J) 23))) := (Below.refl _ _).alloc (Nat.le_refl _) _
  go_enter Tryz.func30, Tryz.ntmps30
  have hA := HA.out
  go_wp2_with (first | (refine wp_loadAtG rfl 23 _ rfl _ _ _ rfl hA Tryz.underlying23 rfl (by kernel_rfl) ?_))
  refine (geoMay_any G S I J _).mono ?_
  rintro e w1 ⟨rfl, hb1⟩
  have hA1 := hA.below hb1 hA.lt
  have hL1 : Below w.heap.size w w1 := HL.out.trans (hb1.mono HL.out.size)
  clear hA HA HL hb1
  cases hm : mayG G S I J with
  | false =>
    have HN : Hid (nBl G S I J = 0) := by show _ = _; unfold nBl; rw [hm]; rfl
    clear hm
    go_wp2_with fail
    go_ret
    exact ⟨by rw [HN.out]; rfl, hL1⟩
  | true =>
    have HN : Hid (nBl G S I J = 2 + J + G * S) := by show _ = _; unfold nBl; rw [hm]; rfl
    obtain ⟨h1, h2, h3, h4, h5, h6, h7, h8, h9, h10, h11⟩ := (mayG_iff G S I J).1 hm
    have hg0 : 0 ≤ G * S := Int.mul_nonneg (by omega) (by omega)
    have hw : IntKind.i64.wrap (G * S) = G * S := IntWalk.i64_in _ (by omega)
    have hw1 : IntKind.i64.wrap (2 + J) = 2 + J := IntWalk.i64_in _ (by omega)
    have hw2 : IntKind.i64.wrap (2 + J + G * S) = 2 + J + G * S := IntWalk.i64_in _ (by omega)
    have c0 : w1.cell? ⟨w.heap.size, 0, none⟩ = some (.int .i64 G) := hA1.cell (i := 0) rfl
    have c1 : w1.cell? ⟨w.heap.size, 1, none⟩ = some (.int .i64 S) := hA1.cell (i := 1) rfl
    have c3 : w1.cell? ⟨w.heap.size, 3, none⟩ = some (.int .i64 J) := hA1.cell (i := 3) rfl
    clear hm h11
    go_wp2_with fail
    go_ret
    exact ⟨by rw [HN.out]; rfl, hL1⟩
/-- is there such a group? -/
def isGr (G S I J k : Int) : Bool := mayG G S I J && (decide (0 ≤ k) && decide (k < G))
def stGr (G S I J k : Int) : Int := if isGr G S I J k then 2 + J + k * S else 0
set_option maxHeartbeats 2000000 in
theorem geoStart_any (G S I J k : Int) (w : World) : Calls Tryz.prog 21 #[gval G S I J, .int .i64 k] w fun e w' => e = .returned (.tuple #[.int .i64 (stGr G S I J k), .bool (isGr G S I J k)]) ∧ Below w.heap.size w w' := by
  have HA := Lib.hid (At.new w 23 (gcells G S I J))
  have HL : Hid (Below w.heap.size w (w.alloc (.cells (gcells G S I J) 23))) := (Below.refl _ _).alloc (Nat.le_refl _) _
  go_enter Tryz.func21, Tryz.ntmps21
  have hA := HA.out
  go_wp2_with (first | (refine wp_loadAtG rfl 23 _ rfl _ _ _ rfl hA Tryz.underlying23 rfl (by kernel_rfl) ?_))
  refine (geoMay_any G S I J _).mono ?_
  rintro e w1 ⟨rfl, hb1⟩
  have hA1 := hA.below hb1 hA.lt
  have hL1 : Below w.heap.size w w1 := HL.out.trans (hb1.mono HL.out.size)
  clear hA HA HL hb1
  have c0 : w1.cell? ⟨w.heap.size, 0, none⟩ = some (.int .i64 G) := hA1.cell (i := 0) rfl
  have c1 : w1.cell? ⟨w.heap.size, 1, none⟩ = some (.int .i64 S) := hA1.cell (i := 1) rfl
  have c3 : w1.cell? ⟨w.heap.size, 3, none⟩ = some (.int .i64 J) := hA1.cell (i := 3) rfl
  cases hm : mayG G S I J with
  | false =>
    have HN : Hid (isGr G S I J k = false) := by show _ = _; unfold isGr; rw [hm]; rfl
    clear hm
    go_wp2_with fail
    go_ret2
    exact ⟨by unfold stGr; rw [HN.out]; rfl, hL1⟩
  | true =>
    obtain ⟨h1, h2, h3, h4, h5, h6, h7, h8, h9, h10, h11⟩ := (mayG_iff G S I J).1 hm
    have HD : Hid (isGr G S I J k = (decide (0 ≤ k) && decide (k < G))) := by show _ = _; unfold isGr; rw [hm]; rfl
    clear hm h11
    by_cases k0 : k < 0
    · have HN : Hid (isGr G S I J k = false) := by show _ = _; rw [HD.out]; simp; omega
      have q0 : decide (k < 0) = true := decide_eq_true k0
      go_wp2_with fail
      go_ret2
      exact ⟨by unfold stGr; rw [HN.out]; rfl, hL1⟩
    have q0 : decide (k < 0) = false := decide_eq_false k0
    by_cases k1 : G ≤ k
    · have HN : Hid (isGr G S I J k = false) := by show _ = _; rw [HD.out]; simp; omega
      have q1 : decide (G ≤ k) = true := decide_eq_true k1
      go_wp2_with fail
      go_ret2
      exact ⟨by unfold stGr; rw [HN.out]; rfl, hL1⟩
    have q1 : decide (G ≤ k) = false := decide_eq_false k1
    have HN : Hid (isGr G S I J k = true) := by show _ = _; rw [HD.out]; simp; omega
    have hg0 : 0 ≤ k * S := Int.mul_nonneg (by omega) (by omega)
    have hg1 : k * S ≤ 4 * 512 := Int.mul_le_mul (by omega) h4 (by omega) (by omega)
    have hw : IntKind.i64.wrap (k * S) = k * S := IntWalk.i64_in _ (by omega)
    have hw1 : IntKind.i64.wrap (2 + J) = 2 + J := IntWalk.i64_in _ (by omega)
    have hw2 : IntKind.i64.wrap (2 + J + k * S) = 2 + J + k * S := IntWalk.i64_in _ (by omega)
    go_wp2_with fail
    go_ret2
    exact ⟨by unfold stGr; rw [HN.out]; rfl, hL1⟩
end Go.Proofs.YtnbmmhoofilmfaaGreatDoor
