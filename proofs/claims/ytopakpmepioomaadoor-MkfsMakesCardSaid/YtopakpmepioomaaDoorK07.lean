/- Texts of this claim, merged by a program (a claim may have 60 files): U6a. -/
import Derived.Test.YtopakpmepioomaaDoorK02
import Derived.Test.YtopakpmepioomaaDoorK05
import Derived.Test.YtopakpmepioomaaDoorK06
/- super's page: what its methods leave and tell. -/
namespace Go.Proofs.YtopakpmepioomaaDoor
open Go.RowKit
set_option linter.unusedVariables false

theorem zero_page (W : World) : (zeroValue 87).run Tryd.prog W = .ok (.agg (Ks .u8 256 (fun _ => 0)).toArray) W := by kernel_rfl
theorem info_page : (Tryd.prog.info? 87).map (·.size) = some 256 := by kernel_rfl
theorem info_page' (z : Nat → Int) : (Tryd.prog.info? 87).map (·.size) = some (Ks .u8 256 z).toArray.size := by rw [Ks_size]; exact info_page
/-- the page's method as a function value -/
abbrev putFn (g : Nat) : Value := .func (.func 58) #[.pointer (some ⟨g, 0, none⟩)] #[]
abbrev getFn (g : Nat) : Value := .func (.func 39) #[.pointer (some ⟨g, 0, none⟩)] #[]

theorem pagePut4_any (g : Nat) (l : Nat → Int) (k : Nat) (K v : Int) (hK : K = 2 * (k : Int)) (hk : k + 2 ≤ 128) (hv : 0 ≤ v) (w : World) {T : TypeId} (hB : Blk w g T 256 (hz l)) :
    Calls Tryd.prog 57 #[.pointer (some ⟨g, 0, none⟩), .int .i64 K, .int .u32 v] w fun e w' => (∃ u, e = .returned u) ∧ Blk w' g T 256 (hz (upd2 l k v)) ∧ Only g w w' := by
  have hsa := fun W => run_sliceBlkAll g 0 W
  have HP := Lib.hid ((put32_yes g 0 256 256 K v (hz l) w (by omega) (by omega) (by omega) hv hB.seg (hB.soft 0 256)).mono (R' := fun e w' => (∃ u, e = .returned u) ∧ Blk w' g T 256 (hz (upd2 l k v)) ∧ Only g w w') fun e w' ⟨he, hp⟩ => by
    refine ⟨⟨_, he⟩, ?_, hp.only⟩
    rw [show 0 + K.toNat = 2 * k by omega] at hp
    exact (hB.puts hp).congr fun i _ => hz_put4 l k v i)
  clear hB hK
  go_enter Tryd.func57, Tryd.ntmps57
  go_wp2_with fail
  refine HP.out.mono ?_
  rintro e w1 ⟨⟨u, rfl⟩, h1, h2⟩
  go_wp2_with fail
  exact bodyPost_end (results_none rfl _ _ _) rfl ⟨⟨_, rfl⟩, h1, h2⟩
theorem pagePut_any (g : Nat) (l : Nat → Int) (k : Nat) (K v : Int) (hK : K = 2 * (k : Int)) (hk : k < 128) (hv : 0 ≤ v) (hv2 : v ≤ 65535) (w : World) {T : TypeId} (hB : Blk w g T 256 (hz l)) :
    Calls Tryd.prog 58 #[.pointer (some ⟨g, 0, none⟩), .int .i64 K, .int .i64 v] w fun e w' => (∃ u, e = .returned u) ∧ Blk w' g T 256 (hz (upd l k v)) ∧ Only g w w' := by
  have hsa := fun W => run_sliceBlkAll g 0 W
  have HP := Lib.hid ((put16_yes g 0 256 256 K v (hz l) w (by omega) (by omega) (by omega) hv hv2 hB.seg (hB.soft 0 256)).mono (R' := fun e w' => (∃ u, e = .returned u) ∧ Blk w' g T 256 (hz (upd l k v)) ∧ Only g w w') fun e w' ⟨he, hp⟩ => by
    refine ⟨⟨_, he⟩, ?_, hp.only⟩
    rw [show 0 + K.toNat = 2 * k by omega] at hp
    exact (hB.puts hp).congr fun i _ => hz_put l k v i)
  clear hB hK
  have hwr : v % 4294967296 = v := by omega
  go_enter Tryd.func58, Tryd.ntmps58
  go_wp2_with fail
  refine HP.out.mono ?_
  rintro e w1 ⟨⟨u, rfl⟩, h1, h2⟩
  go_wp2_with fail
  exact bodyPost_end (results_none rfl _ _ _) rfl ⟨⟨_, rfl⟩, h1, h2⟩
theorem pageGet4_any (g : Nat) (z : Nat → Int) (hzb : Byt z) (k : Nat) (K : Int) (hK : K = (k : Int)) (hk : k + 4 ≤ 256) (w : World) {T : TypeId} (hB : Blk w g T 256 z) :
    Calls Tryd.prog 38 #[.pointer (some ⟨g, 0, none⟩), .int .i64 K] w fun e w' => e = .returned (.int .u32 (g32 z k)) ∧ w = w' := by
  subst hK
  have hsa := fun W => run_sliceBlkAll g 0 W
  have hgt := get32_yes g 0 256 256 (k : Int) z w (by omega) (by omega) (by omega) hB.seg hzb
  rw [Int.toNat_natCast] at hgt
  have HG := Lib.hid hgt
  clear hgt
  go_enter Tryd.func38, Tryd.ntmps38
  go_wp2_with fail
  refine HG.out.mono ?_
  rintro e w1 ⟨rfl, rfl⟩
  go_wp2_with fail
  go_ret
  exact ⟨rfl, rfl⟩
theorem pageGet_any (g : Nat) (z : Nat → Int) (hzb : Byt z) (k : Nat) (K : Int) (hK : K = 2 * (k : Int)) (hk : k < 128) (w : World) {T : TypeId} (hB : Blk w g T 256 z) :
    Calls Tryd.prog 39 #[.pointer (some ⟨g, 0, none⟩), .int .i64 K] w fun e w' => e = .returned (.int .i64 (hd z k)) ∧ w = w' := by
  have hsa := fun W => run_sliceBlkAll g 0 W
  have hgt := get16_yes g 0 256 256 K z w (by omega) (by omega) (by omega) hB.seg hzb
  rw [show K.toNat = 2 * k by omega] at hgt
  have hb := g16_bd hzb (2 * k)
  have HG := Lib.hid hgt
  have HD : Hid (hd z k = g16 z (2 * k)) := rfl
  clear hgt hK
  generalize g16 z (2 * k) = x at *
  go_enter Tryd.func39, Tryd.ntmps39
  go_wp2_with fail
  refine HG.out.mono ?_
  rintro e w1 ⟨rfl, rfl⟩
  go_wp2_with fail
  go_ret
  exact ⟨by rw [HD.out]; rfl, rfl⟩
theorem pageTotal_any (g : Nat) (z : Nat → Int) (hzb : Byt z) (w : World) {T : TypeId} (hB : Blk w g T 256 z) (hT : Tab w) :
    Calls Tryd.prog 74 #[.pointer (some ⟨g, 0, none⟩)] w fun e w' => e = .returned (.int .u32 (crcZ z 252)) ∧ Below w.heap.size w w' := by
  have hsa := fun W => run_sliceBlk g 0 0 252 0 252 rfl rfl (by omega) (by omega) (by omega) W
  have HT := Lib.hid hT
  clear hT
  go_enter Tryd.func74, Tryd.ntmps74
  go_wp2_with fail
  have hP : Pieces (w.alloc (.cells #[.slice (some ⟨g, 0, none⟩) 252 256] 102)) (some ⟨w.heap.size, 0, none⟩) 1 (fun _ => 252) (fun _ => z) := ⟨fun k hk => by
    obtain rfl : k = 0 := by omega
    exact ⟨_, _, rfl, _, _, cell_of_heap (heap_alloc_new w _) rfl, .inr ⟨g, 0, rfl, ((hB.alloc _).seg.take 252 (by omega))⟩, by omega⟩⟩
  refine (crcSum_any _ 1 1 _ _ _ (by omega) hP (fun _ => hzb) (HT.out.alloc _)).mono ?_
  rintro e w1 ⟨rfl, rfl⟩
  clear hP
  go_wp2_with fail
  go_ret
  exact ⟨rfl, (Below.refl _ _).alloc (Nat.le_refl _) _⟩
theorem Blk.grown {w w' : World} {g : Nat} {T : TypeId} {n : Nat} {z : Nat → Int} {row : Option Nat} (h : Blk w g T n z) (hb : w.grownBy w' row) (hg : some g ≠ row) : Blk w' g T n z := (hb.block g h.lt hg).trans h
theorem At.grown {w w' : World} {g : Nat} {T : TypeId} {cs : Array Value} {row : Option Nat} (h : At w g T cs) (hb : w.grownBy w' row) (hg : some g ≠ row) : At w' g T cs := (hb.block g h.lt hg).trans h
theorem Tab.grown {w w' : World} (h : Tab w) {row : Option Nat} (hb : w.grownBy w' row) (hg : some 0 ≠ row) : Tab w' := fun i hi => (World.cell?_of_block (w := w) (hb.block _ h.lt hg)).trans (h i hi)
set_option maxHeartbeats 1000000 in
theorem pageSeal_any (g : Nat) (z : Nat → Int) (hzb : Byt z) (w : World) {T : TypeId} (hB : Blk w g T 256 z) (hT : Tab w) :
    Calls Tryd.prog 60 #[.pointer (some ⟨g, 0, none⟩)] w fun e w' => (∃ u, e = .returned u) ∧ Blk w' g T 256 (sealZ z) ∧ w.grownBy w' (some g) := by
  have hbd := crcZ_bd z 252
  have HS : Hid (∀ W u, Blk W g T 256 z → u = crcZ z 252 → Calls Tryd.prog 57 #[.pointer (some ⟨g, 0, none⟩), .int .i64 252, .int .u32 u] W fun e W' => (∃ u, e = .returned u) ∧ Blk W' g T 256 (sealZ z) ∧ Only g W W') := by
    rintro W u hB rfl
    refine (pagePut4_any g (hd z) 126 252 (crcZ z 252) rfl (by omega) hbd.1 W (hB.congr fun i _ => (hz_hd hzb i).symm)).mono ?_
    rintro e W' ⟨he, h1, h2⟩
    refine ⟨he, h1.congr fun i hi => ?_, h2⟩
    rw [← hz_put4]
    show over (hz (hd z)) 252 4 _ i = over z 252 4 _ i
    unfold over
    rw [hz_hd hzb]
  go_enter Tryd.func60, Tryd.ntmps60
  go_wp2_with fail
  refine (pageTotal_any g z hzb w hB hT).mono ?_
  rintro e w1 ⟨rfl, hb1⟩
  have hB1 := hB.below hb1 hB.lt
  go_wp2_with fail
  refine (HS.out w1 _ hB1 rfl).mono ?_
  rintro e w2 ⟨⟨u, rfl⟩, h1, h2⟩
  go_wp2_with fail
  exact bodyPost_end (results_none rfl _ _ _) rfl ⟨⟨_, rfl⟩, h1, grown_trans (grown_below hb1) (grown_only h2)⟩
theorem pageSealed_any (g : Nat) (z : Nat → Int) (hzb : Byt z) (w : World) {T : TypeId} (hB : Blk w g T 256 z) (hT : Tab w) :
    Calls Tryd.prog 40 #[.pointer (some ⟨g, 0, none⟩)] w fun e w' => e = .returned (.bool (sumB z)) ∧ Below w.heap.size w w' := by
  have HN : Hid (sumB z = (g32 z 252 == crcZ z 252)) := rfl
  go_enter Tryd.func40, Tryd.ntmps40
  go_wp2_with fail
  refine (pageGet4_any g z hzb 252 252 rfl (by omega) w hB).mono ?_
  rintro e w0 ⟨rfl, rfl⟩
  go_wp2_with fail
  refine (pageTotal_any g z hzb w hB hT).mono ?_
  rintro e w1 ⟨rfl, hb1⟩
  go_wp2_with fail
  go_ret
  exact ⟨by rw [HN.out]; rfl, hb1⟩
theorem pageNoughts_any (g : Nat) (z : Nat → Int) (lo hi : Nat) (L H : Int) (hL : L = (lo : Int)) (hH : H = (hi : Int)) (h1 : lo ≤ hi) (h2 : hi ≤ 256) (h3 : lo < 256) (w : World) {T : TypeId} (hB : Blk w g T 256 z) :
    Calls Tryd.prog 41 #[.pointer (some ⟨g, 0, none⟩), .int .i64 L, .int .i64 H] w fun e w' => e = .returned (.bool (allZ (fun i => z (lo + i)) (hi - lo))) ∧ w = w' := by
  have hsa := fun W => run_sliceBlk g 0 lo hi L H hL hH h1 h2 h3 W
  have HZ := Lib.hid (zero_any (some ⟨g, 0 + lo, none⟩) (hi - lo) (256 - lo) (fun i => z (lo + i)) w (by omega) (.inr ⟨g, 0 + lo, rfl, hB.seg.sub lo (hi - lo) (by omega)⟩))
  clear hL hH hB
  rw [Nat.zero_add] at hsa HZ
  go_enter Tryd.func41, Tryd.ntmps41
  go_wp2_with fail
  refine HZ.out.mono ?_
  rintro e w1 ⟨rfl, rfl⟩
  go_wp2_with fail
  go_ret
  exact ⟨rfl, rfl⟩
/-- the geometry's halves are put -/
def geoH (l : Nat → Int) (G S I J : Int) : Nat → Int := upd (upd (upd (upd l 4 G) 5 S) 6 I) 7 J
theorem geo_small {G S I J : Int} (h : mayG G S I J = true) : 0 ≤ G ∧ G ≤ 65535 ∧ 0 ≤ S ∧ S ≤ 65535 ∧ 0 ≤ I ∧ I ≤ 65535 ∧ 0 ≤ J ∧ J ≤ 65535 := by
  obtain ⟨h1, h2, h3, h4, h5, h6, h7, h8, h9, h10, h11⟩ := (mayG_iff G S I J).1 h
  omega
set_option maxRecDepth 100000 in
set_option maxHeartbeats 2000000 in
theorem putGeo_any (g : Nat) (l : Nat → Int) (G S I J : Int) (hm : mayG G S I J = true) (w : World) {T : TypeId} (hB : Blk w g T 256 (hz l)) :
    Calls Tryd.prog 59 #[gval G S I J, putFn g] w fun e w' => (∃ u, e = .returned u) ∧ Blk w' g T 256 (hz (geoH l G S I J)) ∧ w.grownBy w' (some g) := by
  obtain ⟨b1, b2, b3, b4, b5, b6, b7, b8⟩ := geo_small hm
  have HA := Lib.hid (At.new w 23 (gcells G S I J))
  have HG : Hid (w.grownBy (w.alloc (.cells (gcells G S I J) 23)) (some g)) := grown_below ((Below.refl _ _).alloc (Nat.le_refl _) _)
  have hne := hB.lt
  have HB := Lib.hid (hB.alloc (.cells (gcells G S I J) 23))
  clear hB hm
  have c0 : (w.alloc (.cells #[.int .i64 G, .int .i64 S, .int .i64 I, .int .i64 J] 23)).cell? ⟨w.heap.size, 0, none⟩ = some (.int .i64 G) := HA.out.cell (i := 0) rfl
  go_enter Tryd.func59, Tryd.ntmps59
  go_wp2_with fail
  refine (pagePut_any g l 4 8 G rfl (by omega) b1 b2 _ HB.out).mono ?_
  rintro e w1 ⟨⟨u1, rfl⟩, hB1, ho1⟩
  have hA1 : At w1 w.heap.size 23 (gcells G S I J) := HA.out.only ho1 (by omega)
  have hG1 := grown_trans HG.out (grown_only ho1)
  have c1 := hA1.cell (i := 1) rfl
  clear HB HA HG c0 ho1
  go_wp2_with fail
  refine (pagePut_any g _ 5 10 S rfl (by omega) b3 b4 _ hB1).mono ?_
  rintro e w2 ⟨⟨u2, rfl⟩, hB2, ho2⟩
  have hA2 : At w2 w.heap.size 23 (gcells G S I J) := hA1.only ho2 (by omega)
  have hG2 := grown_trans hG1 (grown_only ho2)
  have c2 := hA2.cell (i := 2) rfl
  clear hB1 hA1 hG1 c1 ho2
  go_wp2_with fail
  refine (pagePut_any g _ 6 12 I rfl (by omega) b5 b6 _ hB2).mono ?_
  rintro e w3 ⟨⟨u3, rfl⟩, hB3, ho3⟩
  have hA3 : At w3 w.heap.size 23 (gcells G S I J) := hA2.only ho3 (by omega)
  have hG3 := grown_trans hG2 (grown_only ho3)
  have c3 := hA3.cell (i := 3) rfl
  clear hB2 hA2 hG2 c2 ho3
  go_wp2_with fail
  refine (pagePut_any g _ 7 14 J rfl (by omega) b7 b8 _ hB3).mono ?_
  rintro e w4 ⟨⟨u4, rfl⟩, hB4, ho4⟩
  have hG4 := grown_trans hG3 (grown_only ho4)
  clear hB3 hA3 hG3 c3 ho4
  go_wp2_with fail
  exact bodyPost_end (results_none rfl _ _ _) rfl ⟨⟨_, rfl⟩, hB4, hG4⟩
end Go.Proofs.YtopakpmepioomaaDoor
