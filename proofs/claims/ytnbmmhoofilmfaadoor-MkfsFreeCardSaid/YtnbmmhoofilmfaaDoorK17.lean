/- Texts of this claim, merged by a program (a claim may have 60 files): U6g, S8e, Ck0. -/
import Derived.Test.YtnbmmhoofilmfaaDoorK12
import Derived.Test.YtnbmmhoofilmfaaDoorK15
import Derived.Test.YtnbmmhoofilmfaaDoorK10
import Derived.Test.YtnbmmhoofilmfaaDoorK16
import Derived.Test.YtnbmmhoofilmfaaDoorK06
import Derived.Test.YtnbmmhoofilmfaaDoorK04
/- super.ReadDescs. -/
namespace Go.Proofs.YtnbmmhoofilmfaaDoor
open Go.RowKit
set_option linter.unusedVariables false

abbrev rB (z : Nat → Int) (k : Nat) : Int := hd z (4 * k)
abbrev rI (z : Nat → Int) (k : Nat) : Int := hd z (4 * k + 1)
abbrev rD (z : Nat → Int) (k : Nat) : Int := hd z (4 * k + 2)
def rdIn (G S I J : Int) (z : Nat → Int) : Bool :=
  sumB z && (allZ (fun i => z (8 * G.toNat + i)) (252 - 8 * G.toNat) && (allB (fun k => hd z (4 * k + 3) == 0) G.toNat && mayD G S I J G.toNat (rB z) (rI z) (rD z)))
def rdOk (G S I J : Int) (z : Nat → Int) : Bool := mayG G S I J && rdIn G S I J z
/-- what ReadDescs tells -/
def RdPost (w : World) (G S I J : Int) (z : Nat → Int) (v : Value) (e : Int) (W : World) : Prop :=
  (rdOk G S I J z = true ∧ e = 0 ∧ RMine W w.heap.size 74 3 v G.toNat (df (rB z) (rI z) (rD z))) ∨ (rdOk G S I J z = false ∧ e = (if mayG G S I J then 60 else 50) ∧ v = .slice none 0 0)
theorem zero_half (z : Nat → Int) (hzb : Byt z) (k : Nat) : allZ (fun i => z (8 * k + 6 + i)) 2 = (hd z (4 * k + 3) == 0) := by
  have h := allZ_hd hzb (4 * k + 3) 1
  rw [show 2 * (4 * k + 3) = 8 * k + 6 by omega] at h
  rw [show 2 * 1 = 2 from rfl] at h
  rw [h, Bool.eq_iff_iff]
  simp [allZ]
theorem info_desc3 : (Tryd.prog.info? 74).map (fun i => (i.zero, i.size, i.bytes)) = some (some (dval 0 0 0), 3, 24) := by kernel_rfl
theorem all_d (B I D : Int) : (dcells B I D).all (·.oneCell') = true := by kernel_rfl

def mixR (z : Nat → Int) (k j : Nat) : List Value := if j < k then df (rB z) (rI z) (rD z) j else [.int .i64 0, .int .i64 0, .int .i64 0]
theorem mixR_len (z : Nat → Int) (k j : Nat) : (mixR z k j).length = 3 := by unfold mixR; split <;> rfl
structure RD (w : World) (G S I J : Int) (g : Nat) (z : Nat → Int) (W : World) : Prop where
  s : At W w.heap.size 23 (gcells G S I J)
  p : Blk W g 154 256 z
  bel : Below w.heap.size w W
theorem RD.below {w : World} {G S I J : Int} {g : Nat} {z : Nat → Int} {W W' : World} (h : RD w G S I J g z W) (hb : Below W.heap.size W W') : RD w G S I J g z W' :=
  ⟨h.s.below hb h.s.lt, h.p.below hb h.p.lt, h.bel.trans (hb.mono h.bel.size)⟩
theorem RD.only {w : World} {G S I J : Int} {g q : Nat} {z : Nat → Int} {W W' : World} (h : RD w G S I J g z W) (hb : Only q W W') (h1 : w.heap.size < q) (h2 : g ≠ q) : RD w G S I J g z W' :=
  ⟨h.s.only hb (by omega), h.p.only hb h2, h.bel.trans (hb.below (by omega))⟩

set_option maxRecDepth 100000 in
set_option maxHeartbeats 4000000 in
theorem superReadDescs_any (G S I J : Int) (z : Nat → Int) (hzb : Byt z) (w : World) (hT : Tab w) :
    Calls Tryd.prog 142 #[gval G S I J, bval z] w fun e w' => ∃ v E, e = .returned (.tuple #[v, .int .i64 E]) ∧ RdPost w G S I J z v E w' ∧ Below w.heap.size w w' := by
  have halp := zero_page
  have hbd := fun W => build_page z W
  have HT := Lib.hid hT
  obtain ⟨W, hW⟩ : ∃ W, W = (w.alloc (.cells (gcells G S I J) 23)).alloc (.cells (Ks .u8 256 z).toArray 32) := ⟨_, rfl⟩
  have hS : At W w.heap.size 23 (gcells G S I J) := by rw [hW]; exact (At.new w _ _).alloc _
  have hB : Blk W (w.heap.size + 1) 32 256 z := by
    rw [hW]
    have := Blk.new (w.alloc (.cells (gcells G S I J) 23)) 32 256 z
    simp only [World.size_alloc] at this
    exact this
  have hL : Below w.heap.size w W := by rw [hW]; exact ((Below.refl _ _).alloc (Nat.le_refl _) _).alloc (by simp) _
  have HW := Lib.hid hW
  clear hW hT
  go_enter Tryd.func142, Tryd.ntmps142
  have hS0 : At ((w.alloc (.cells (gcells G S I J) 23)).alloc (.cells (Ks .u8 256 z).toArray 32)) w.heap.size 23 (gcells G S I J) := (At.new w _ _).alloc _
  go_wp2_with (first | (refine wp_loadAtG rfl 23 (.tmp 2) rfl _ _ _ rfl hS0 Tryd.underlying23 rfl (by kernel_rfl) ?_))
  rw [← HW.out]
  clear HW hS0
  refine (geoMay_any G S I J W).mono ?_
  rintro e w1 ⟨rfl, hb1⟩
  have hS1 := hS.below hb1 hS.lt
  have hB1 := hB.below hb1 hB.lt
  have hL1 : Below w.heap.size w w1 := hL.trans (hb1.mono hL.size)
  clear hS hB hL hb1
  cases hm : mayG G S I J with
  | false =>
    have HO : Hid (RdPost w G S I J z (.slice none 0 0) 50 w1) := .inr ⟨by unfold rdOk; rw [hm]; rfl, by rw [hm]; rfl, rfl⟩
    clear hm
    go_wp2_with fail
    go_ret2
    exact ⟨_, _, rfl, HO.out, hL1⟩
  | true =>
  have HM := Lib.hid hm
  have hG : 1 ≤ G ∧ G ≤ 4 := by
    obtain ⟨h1, h2, h3, h4, h5, h6, h7, h8, h9, h10, h11⟩ := (mayG_iff G S I J).1 hm
    exact ⟨h1, h2⟩
  clear hm
  have HF : Hid (∀ W, rdIn G S I J z = false → RdPost w G S I J z (.slice none 0 0) 60 W) := fun W h => .inr ⟨by unfold rdOk; rw [HM.out, h]; rfl, by rw [HM.out]; rfl, rfl⟩
  obtain ⟨n, hn⟩ : ∃ n : Nat, G = (n : Int) := ⟨G.toNat, by omega⟩
  have HGN : Hid (G.toNat = n) := by show _ = _; omega
  have hn4 : 1 ≤ n ∧ n ≤ 4 := by omega
  have hP : At (w1.alloc (.cells (Ks .u8 256 (fun _ => 0)).toArray 154)) w1.heap.size 154 (Ks .u8 256 (fun _ => 0)).toArray := At.new _ _ _
  have hsz := hB1.lt
  have HS1 := Lib.hid (hS1.alloc (.cells (Ks .u8 256 (fun _ => 0)).toArray 154))
  have HL1 : Hid (Below w.heap.size w (w1.alloc (.cells (Ks .u8 256 (fun _ => 0)).toArray 154))) := hL1.alloc hL1.size _
  have HNEQ := Lib.hid hn
  clear hS1 hL1 hn
  go_wp2_with (first | (refine wp_loadBlkG rfl (.tmp 3) rfl (w.heap.size + 1) z rfl hB1 ?_) | (refine wp_build1 rfl 154 0 (.tmp 12) rfl (bval z) _ rfl (hbd _) ?_) | (refine wp_storeAt rfl 154 (.tmp 6) (.tmp 13) rfl w1.heap.size (Ks .u8 256 z).toArray (Ks .u8 256 (fun _ => 0)).toArray rfl rfl hP (info_page' z) (by rw [Ks_size, Ks_size]) (Ks_one _ _ _) ?_))
  intro w2 hP2 ho2
  obtain ⟨g, hg⟩ : ∃ g, w1.heap.size = g := ⟨_, rfl⟩
  rw [hg] at hP2 ho2 ⊢
  have st0 : Hid (RD w G S I J g z w2) := ⟨HS1.out.only ho2 (by omega), hP2.blk, HL1.out.trans (ho2.below (by omega))⟩
  have hgl : w.heap.size + 2 ≤ g := by omega
  clear HS1 HL1 hP hP2 ho2 hB1 hsz hg hbd
  go_wp2_with fail
  refine (pageSealed_any g z hzb _ st0.out.p (HT.out.below st0.out.bel (Nat.le_refl _))).mono ?_
  rintro e w3 ⟨rfl, hb3⟩
  have st3 := Lib.hid (st0.out.below hb3)
  clear st0 hb3
  cases hc4 : sumB z with
  | false =>
    have HX : Hid (rdIn G S I J z = false) := by show _ = _; unfold rdIn; rw [hc4]; rfl
    clear hc4
    go_wp2_with fail
    go_ret2
    exact ⟨_, _, rfl, HF.out _ HX.out, st3.out.bel⟩
  | true =>
  have HC4 := Lib.hid hc4
  clear hc4
  have hc0 : w3.cell? ⟨w.heap.size, 0, none⟩ = some (.int .i64 G) := st3.out.s.cell (i := 0) rfl
  go_wp2_with fail
  refine (pageNoughts_any g z (8 * n) 252 _ 252 (by have := HNEQ.out; omega) rfl (by omega) (by omega) (by omega) _ st3.out.p).mono ?_
  rintro e wx ⟨rfl, rfl⟩
  cases hc5 : allZ (fun i => z (8 * n + i)) (252 - 8 * n) with
  | false =>
    have HX : Hid (rdIn G S I J z = false) := by show _ = _; unfold rdIn; rw [HC4.out, HGN.out, hc5]; rfl
    clear hc5
    go_wp2_with fail
    go_ret2
    exact ⟨_, _, rfl, HF.out _ HX.out, st3.out.bel⟩
  | true =>
  have HIN : Hid (rdIn G S I J z = (allB (fun k => hd z (4 * k + 3) == 0) n && mayD G S I J n (rB z) (rI z) (rD z))) := by show _ = _; unfold rdIn; rw [HC4.out, HGN.out, hc5]; rfl
  clear hc5 HC4
  have hmk := fun W => run_mkrow (P := Tryd.prog) 72 74 (dval 0 0 0) 3 24 Tryd.underlying72 info_desc3 .i64 .i64 n (by omega) (by omega) W
  have hn := HNEQ.out
  rw [← hn] at hmk
  clear hn
  have HA0 := Lib.hid (RArr.made (m := 3) w3 (dcells 0 0 0) rfl (by omega) n 74)
  have st4 : Hid (RD w G S I J g z (w3.alloc (.cells (madeCells (dval 0 0 0).cells (n * 3)) 74))) := st3.out.below ((Below.refl _ _).alloc (Nat.le_refl _) _)
  have hql : g < w3.heap.size := st3.out.p.lt
  clear st3
  go_wp2_with fail
  obtain ⟨q, hq⟩ : ∃ q, w3.heap.size = q := ⟨_, rfl⟩
  rw [hq] at HA0 hql ⊢
  have HA1 : Hid (RArr (w3.alloc (.cells (madeCells (dval 0 0 0).cells (n * 3)) 74)) q 74 3 n (mixR z 0)) := HA0.out.congr fun i _ => rfl
  clear HA0 hmk hq
  go_loopw [28] (fun u wr => ∃ k : Nat, k ≤ n ∧ u = .int .i64 (k : Int) ∧ Hid (allB (fun k => hd z (4 * k + 3) == 0) k = true) ∧ RD w G S I J g z wr ∧ RArr wr q 74 3 n (mixR z k)) (fun u _ => n - (intOf u).toNat)
  case atStart => exact ⟨0, by omega, rfl, rfl, st4.out, HA1.out⟩
  case round =>
    clear st4 HA1 hc0
    obtain ⟨k, hk, rfl, HALL, st, harr⟩ := hrel
    have ST := Lib.hid st
    have HARR := Lib.hid harr
    clear st harr
    by_cases hlt : k < n
    · go_wp2_with fail
      refine (pageNoughts_any g z (8 * k + 6) (8 * k + 8) _ _ (by omega) (by omega) (by omega) (by omega) (by omega) _ ST.out.p).mono ?_
      rintro e wx ⟨rfl, rfl⟩
      rw [show 8 * k + 8 - (8 * k + 6) = 2 by omega, zero_half z hzb]
      cases hzq : (hd z (4 * k + 3) == 0) with
      | false =>
        have HX : Hid (rdIn G S I J z = false) := by show _ = _; rw [HIN.out, allB_no hlt hzq]; rfl
        clear hzq
        go_wp2_with fail
        go_ret2
        exact ⟨_, _, rfl, HF.out _ HX.out, ST.out.bel⟩
      | true =>
        have HALL2 : Hid (allB (fun k => hd z (4 * k + 3) == 0) (k + 1) = true) := by show (allB _ k && (hd z (4 * k + 3) == 0)) = true; rw [HALL.out, hzq]; rfl
        clear hzq HALL
        go_wp2_with fail
        refine (getDesc_any g z hzb k _ (by omega) (by omega) _ ST.out.p).mono ?_
        rintro e w6 ⟨rfl, hb6⟩
        have st6 := Lib.hid (ST.out.below hb6)
        have HARR6 := Lib.hid (HARR.out.below hb6)
        clear ST HARR hb6
        have hth := HARR6.out.there hlt
        have hset := Lib.hid (HARR6.out.set hlt (vs := [.int .i64 (rB z k), .int .i64 (rI z k), .int .i64 (rD z k)]) rfl (mixR_len z k))
        go_wp2_with (first | (refine wpList_store_mid rfl 74 (.tmp 45) (.tmp 44) rfl q (k * 3) (dcells (rB z k) (rI z k) (rD z k)) rfl rfl hth info_desc (all_d _ _ _) ?_))
        have st7 := st6.out.only hset.out.2 (by omega) (by omega)
        have harr7 : RArr (w6.setCells q (k * 3) [.int .i64 (rB z k), .int .i64 (rI z k), .int .i64 (rD z k)]) q 74 3 n (mixR z (k + 1)) := hset.out.1.congr fun i _ => by
          unfold mixR
          by_cases e : i = k
          · subst e; rw [if_pos rfl, if_pos (by omega)]; rfl
          · rw [if_neg e]
            by_cases e2 : i < k
            · rw [if_pos e2, if_pos (by omega)]
            · rw [if_neg e2, if_neg (by omega)]
        generalize w6.setCells q (k * 3) [.int .i64 (rB z k), .int .i64 (rI z k), .int .i64 (rD z k)] = w7 at *
        clear st6 HARR6 hset hth
        go_roundw
        case rel => first | exact ⟨k + 1, by omega, by go_num, HALL2, st7, harr7⟩ | exact ⟨k + 1, by omega, rfl, HALL2, st7, harr7⟩
        case measure => simp [intOf]; omega
    · obtain rfl : k = n := by omega
      have hs := ST.out.s
      have hrow : RRow wr (some ⟨q, 0, none⟩) 3 k (df (rB z) (rI z) (rD z)) := .inr ⟨q, 0, rfl, (HARR.out.congr (f' := df (rB z) (rI z) (rD z)) fun i hi => by unfold mixR; rw [if_pos hi]).seg⟩
      have HROW := Lib.hid hrow
      clear hrow
      go_wp2_with (first | (refine wp_loadAtG rfl 23 (.tmp 2) rfl _ _ _ rfl hs Tryd.underlying23 rfl (by kernel_rfl) ?_))
      refine (superMay_any G S I J HM.out _ k _ _ _ _ (by omega) _ HROW.out).mono ?_
      rintro e w8 ⟨rfl, hb8⟩
      cases hmd : mayD G S I J k (rB z) (rI z) (rD z) with
      | false =>
        have HX : Hid (rdIn G S I J z = false) := by show _ = _; rw [HIN.out, hmd, Bool.and_false]
        have HBL : Hid (Below w.heap.size w w8) := ST.out.bel.trans (hb8.mono ST.out.bel.size)
        clear hmd hb8 hs
        go_wp2_with fail
        go_ret2
        exact ⟨_, _, rfl, HF.out _ HX.out, HBL.out⟩
      | true =>
        have HX : Hid (rdOk G S I J z = true) := by show _ = _; unfold rdOk; rw [HM.out, HIN.out, hmd, HALL.out]; rfl
        have HBL : Hid (Below w.heap.size w w8) := ST.out.bel.trans (hb8.mono ST.out.bel.size)
        have HMI : Hid (RMine w8 w.heap.size 74 3 (.slice (some ⟨q, 0, none⟩) k k) k (df (rB z) (rI z) (rD z))) :=
          (((HARR.out.congr (f' := df (rB z) (rI z) (rD z)) fun i hi => by unfold mixR; rw [if_pos hi]).below hb8).mine (df_len _ _ _) (by omega) (by unfold maxLen; omega))
        clear hmd hb8 hs
        go_wp2_with fail
        go_ret2
        exact ⟨_, _, rfl, .inl ⟨HX.out, rfl, by rw [HGN.out]; exact HMI.out⟩, HBL.out⟩
end Go.Proofs.YtnbmmhoofilmfaaDoor

/- slots.List, slots.Find. -/
namespace Go.Proofs.YtnbmmhoofilmfaaDoor
open Go.RowKit
set_option linter.unusedVariables false

def errO8 (b : Bool) (e : Int) : Int := if b then 0 else e
/-- which slot has a name, and its inode -/
def fS (z : Nat → Int) (s : ByteArray) : Int := firstB (hitB (sdI z) (sdN z) s) 8
def fI (z : Nat → Int) (s : ByteArray) : Int := if fS z s = -1 then 0 else sdI z (fS z s).toNat
def ListRead (w : World) (z : Nat → Int) (e : Ending) (w' : World) : Prop :=
  Below w.heap.size w w' ∧ (dirB z = false ∧ e = .returned (.tuple #[.slice none 0 0, .int .i64 80]) ∨
    dirB z = true ∧ ∃ g, w.heap.size ≤ g ∧ e = .returned (.tuple #[.slice (some ⟨g, 0, none⟩) 8 8, .int .i64 0]) ∧ At w' g 250 (Sc (dI z) (dM z) 8).toArray)
theorem run_slotsAll (g : Nat) (W : World) : (Instr.sliceAt 250 (.pointer (some ⟨g, 0, none⟩)) none none none).run Tryd.prog W = .ok (.slice (some ⟨g, 0, none⟩) 8 8) W := by kernel_rfl
theorem read_yes {z : Nat → Int} (h : dirB z = true) : Sc (sdI z) (sdN z) 8 = Sc (dI z) (dM z) 8 := Sc_congr fun i _ => by unfold sdI sdN; rw [h]; exact ⟨rfl, rfl⟩

set_option maxRecDepth 100000 in
set_option maxHeartbeats 1000000 in
theorem list_any (z : Nat → Int) (hz : Byt z) (w : World) : Calls Tryd.prog 169 #[bval z] w (ListRead w z) := by
  have hal := zero_slots
  have hB := Blk.new w 32 256 z
  have hL : Below w.heap.size w (w.alloc (.cells (Ks .u8 256 z).toArray 32)) := (Below.refl _ _).alloc (Nat.le_refl _) _
  have HB := Lib.hid hB
  have HL := Lib.hid hL
  clear hB hL
  go_enter Tryd.func169, Tryd.ntmps169
  go_wp2_with fail
  refine (read_any w.heap.size z hz _ HB.out).mono ?_
  rintro e w1 ⟨rfl, hb1⟩
  have hL1 : Below w.heap.size w w1 := HL.out.trans (hb1.mono HL.out.size)
  have hA1 := At.new w1 250 (Sc noI noN 8).toArray
  clear HB HL hb1
  have hsl := fun W => run_slotsAll w1.heap.size W
  cases hd : dirB z with
  | false =>
    have HD := Lib.hid hd
    clear hd
    go_wp2_with (first | (refine wp_storeAt rfl 250 _ _ rfl _ (Sc (sdI z) (sdN z) 8).toArray _ rfl rfl hA1 (info_slots _ _) (by rw [Sc_size, Sc_size]) (one_slots _ _) ?_))
    intro w2 hA2 ho2
    have hL2 : Below w.heap.size w w2 := (hL1.alloc hL1.size _).trans (ho2.below hL1.size)
    clear hA1 hL1 ho2 hal
    go_wp2_with fail
    go_ret2
    exact ⟨hL2, .inl ⟨HD.out, rfl⟩⟩
  | true =>
    have HD := Lib.hid hd
    clear hd
    go_wp2_with (first | (refine wp_storeAt rfl 250 _ _ rfl _ (Sc (sdI z) (sdN z) 8).toArray _ rfl rfl hA1 (info_slots _ _) (by rw [Sc_size, Sc_size]) (one_slots _ _) ?_))
    intro w2 hA2 ho2
    have hL2 : Below w.heap.size w w2 := (hL1.alloc hL1.size _).trans (ho2.below hL1.size)
    have hfin : Hid (ListRead w z (.returned (.tuple #[.slice (some ⟨w1.heap.size, 0, none⟩) 8 8, .int .i64 0])) w2) := ⟨hL2, .inr ⟨HD.out, _, hL1.size, rfl, by rw [← read_yes HD.out]; exact hA2⟩⟩
    clear hA1 hL1 ho2 hal
    go_wp2_with fail
    go_ret2
    exact hfin.out

end Go.Proofs.YtnbmmhoofilmfaaDoor

/- check, plainly: an image's rules, one behind the other. -/
namespace Go.Proofs.YtnbmmhoofilmfaaDoor
open Go.RowKit
set_option linter.unusedVariables false

/-- bit i of a block -/
def bt (z : Nat → Int) (i : Nat) : Bool := (z (i / 8)).toNat.testBit (i % 8)
/-- n steps, each of which may break -/
def foldO {σ : Type} (f : Nat → σ → Option σ) : Nat → σ → Option σ
  | 0, o => some o
  | n + 1, o => (foldO f n o).bind (f n)
/-- f, but v at k -/
def updN {α : Type} (f : Nat → α) (k : Nat) (v : α) : Nat → α := fun b => if b = k then v else f b
/-- how many of the first n -/
def cntB (p : Nat → Bool) : Nat → Nat
  | 0 => 0
  | n + 1 => cntB p n + (if p n then 1 else 0)
/-- an image: its blocks, how many, its geometry's numbers, its first orphan -/
structure Im where
  L : Nat → Nat → Int
  n : Nat
  g : Nat
  s : Nat
  i : Nat
  j : Nat
  o : Nat
namespace Im
variable (x : Im)
def st (k : Nat) : Nat := 2 + x.j + k * x.s
def own : Nat := 2 + x.i / 4
def ni : Nat := x.g * x.i
def ib (t : Nat) : Nat := x.st ((t - 1) / x.i) + 2 + (t - 1) % x.i / 4
def ia (t : Nat) : Nat := (t - 1) % x.i % 4 * 64
def ino (t : Nat) : Ino := if 1 ≤ t ∧ t ≤ x.ni then getIno (x.L (x.ib t)) (x.ia t) else Ino.nil
def data (b : Nat) : Bool := decide (2 + x.j ≤ b) && (decide (b < x.n) && decide (x.own ≤ (b - (2 + x.j)) % x.s))
def ck1 : Bool := decide (0 < x.n) && (readE (x.L 0) == 0 && ((x.n : Int) == nBl (hd (x.L 0) 4) (hd (x.L 0) 5) (hd (x.L 0) 6) (hd (x.L 0) 7)))
def ck2 : Bool := rdOk x.g x.s x.i x.j (x.L 1)
def allS (P : Nat → Bool) (lo hi : Nat) : Bool := allB (fun k => P (lo + k)) (hi - lo)
def ck3 (k : Nat) : Bool := allS (bt (x.L (x.st k))) 0 x.own && (allS (bt (x.L (x.st k))) x.s 2048 && allS (bt (x.L (x.st k + 1))) x.i 2048)
def used (t : Nat) : Bool := bt (x.L (x.st ((t - 1) / x.i) + 1)) ((t - 1) % x.i)
def ck4 (t : Nat) : Bool := getErr (x.L (x.ib t)) (x.ia t) == 0 && (x.used t == ((x.ino t).kind != 0))
def orpF : Nat → Nat → (Nat → Bool) → Option (Nat → Bool)
  | 0, _, _ => none
  | f + 1, t, m => if t = 0 then some m else if t ≤ x.ni ∧ m t = false ∧ (x.ino t).kind = 1 then orpF f (x.ino t).next.toNat (updN m t true) else none
def orph : Option (Nat → Bool) := x.orpF (x.ni + 2) x.o (fun _ => false)
def ck6 (m : Nat → Bool) (t : Nat) : Bool := m t || ((x.ino t).next == 0 && ((x.ino t).kind != 1 || (x.ino t).links != 0))
def lvl (q : Nat) : Nat := if q < 8 then 0 else q - 7
def fst (q : Nat) : Nat := if q < 9 then q else if q = 9 then 72 else 4168
def spn (l : Nat) : Nat := 64 ^ l
/-- word k of a block of pointers -/
def wrd (b k : Nat) : Nat := (g32 (x.L b) (4 * k)).toNat
def ptrF (t : Nat) : Nat → Nat → Nat → Nat → (Nat → Nat) → Option (Nat → Nat)
  | 0, p, first, en, o => if p = 0 then some o else if first < min en 65536 ∧ x.data p = true ∧ o p = 0 then some (updN o p t) else none
  | l + 1, p, first, en, o => if p = 0 then some o else if first < min en 65536 ∧ x.data p = true ∧ o p = 0 then foldO (fun k o => ptrF t l (x.wrd p k) (first + k * spn l) en o) 64 (updN o p t) else none
def en (m : Nat → Bool) (t : Nat) : Nat := if m t then 65536 else ((x.ino t).size.toNat + 255) / 256
def treeF (m : Nat → Bool) (t : Nat) (o : Nat → Nat) : Option (Nat → Nat) :=
  if (x.ino t).kind = 0 then some o else foldO (fun q o => x.ptrF t (lvl q) ((x.ino t).p q).toNat (fst q) (x.en m t) o) 11 o
def trees (m : Nat → Bool) : Option (Nat → Nat) := foldO (fun t o => x.treeF m (t + 1) o) x.ni (fun _ => 0)
def ck8 (o : Nat → Nat) (k : Nat) : Bool := allB (fun d => bt (x.L (x.st k)) (x.own + d) == (o (x.st k + (x.own + d)) != 0)) (x.s - x.own)
/-- the way to the block of an index: which pointer, which words below it -/
def wayP (i : Nat) : Nat := if i < 8 then i else if i < 72 then 8 else if i < 4168 then 9 else 10
def wayB (i : Nat) : List Nat := if i < 8 then [] else if i < 72 then [i - 8] else if i < 4168 then [(i - 72) / 64, (i - 72) % 64] else [(i - 4168) / 4096, (i - 4168) % 4096 / 64, (i - 4168) % 64]
def step (b k : Nat) : Nat := if b = 0 then 0 else x.wrd b k
def blk (t i : Nat) : Nat := (wayB i).foldl x.step ((x.ino t).p (wayP i)).toNat
def slotF (z : Nat → Int) (k : Nat) (r : List (List UInt8) × List Nat) : Option (List (List UInt8) × List Nat) :=
  if dI z k = 0 then some r else if (dM z k).data.toList ∉ r.1 ∧ (dI z k).toNat ≤ x.ni ∧ (x.ino (dI z k).toNat).kind ≠ 0 then some (r.1 ++ [(dM z k).data.toList], r.2 ++ [(dI z k).toNat]) else none
def dirB' (t i : Nat) (r : List (List UInt8) × List Nat) : Option (List (List UInt8) × List Nat) :=
  if x.blk t i ≠ 0 ∧ dirB (x.L (x.blk t i)) = true then foldO (x.slotF (x.L (x.blk t i))) 8 r else none
def dirF (t : Nat) : Option (List (List UInt8) × List Nat) := foldO (x.dirB' t) ((x.ino t).size.toNat / 256) ([], [])
def dirs : Option (Nat → List Nat) := foldO (fun t u => if (x.ino (t + 1)).kind = 2 then (x.dirF (t + 1)).map (fun r => updN u (t + 1) r.2) else some u) x.ni (fun _ => [])
/-- how many slots lead to an inode -/
def cnt (u : Nat → List Nat) (t : Nat) : Nat → Nat
  | 0 => 0
  | n + 1 => cnt u t n + (u n).count t
def ck10 (u : Nat → List Nat) (t : Nat) : Bool :=
  if t = 1 then cnt u t (x.ni + 1) == 0 else if (x.ino t).kind = 2 then cnt u t (x.ni + 1) == 1 else if (x.ino t).kind = 1 then ((cnt u t (x.ni + 1) : Nat) : Int) == (x.ino t).links else true
def come1 (c : (Nat → Bool) × List Nat) (t : Nat) : (Nat → Bool) × List Nat := if (x.ino t).kind = 2 ∧ c.1 t = false then (updN c.1 t true, t :: c.2) else c
def popF (u : Nat → List Nat) : Nat → (Nat → Bool) × List Nat → Nat → Bool
  | 0, c => c.1
  | f + 1, (c, []) => c
  | f + 1, (c, t :: r) => popF u f ((u t).foldl x.come1 (c, r))
def reach (u : Nat → List Nat) : Nat → Bool := x.popF u (x.ni + 2) (updN (fun _ => false) 1 true, [1])
def ck11 (c : Nat → Bool) (t : Nat) : Bool := (x.ino t).kind != 2 || c t
def free (k : Nat) : Int := (x.s : Int) - (cntB (bt (x.L (x.st k))) x.s : Nat)
def freeI (k : Nat) : Int := (x.i : Int) - (cntB (bt (x.L (x.st k + 1))) x.i : Nat)
def nDir (k : Nat) : Nat := cntB (fun b => (x.ino (k * x.i + b + 1)).kind == 2) x.i
def ck12 (k : Nat) : Bool := x.free k == rB (x.L 1) k && (x.freeI k == rI (x.L 1) k && ((x.nDir k : Nat) : Int) == rD (x.L 1) k)
/-- what is found of an image: the first rule that does not hold, or 0; whose its blocks are -/
def exam : Nat × (Nat → Nat) :=
  if x.ck1 = false then (1, fun _ => 0) else if x.ck2 = false then (2, fun _ => 0) else if allB x.ck3 x.g = false then (3, fun _ => 0)
  else if allB (fun t => x.ck4 (t + 1)) x.ni = false then (4, fun _ => 0) else if (x.ino 1).kind ≠ 2 then (5, fun _ => 0)
  else match x.orph with
  | none => (6, fun _ => 0)
  | some m =>
    if allB (fun t => x.ck6 m (t + 1)) x.ni = false then (6, fun _ => 0) else match x.trees m with
    | none => (7, fun _ => 0)
    | some o => if allB (x.ck8 o) x.g = false then (8, fun _ => 0) else match x.dirs with
      | none => (9, fun _ => 0)
      | some u =>
        if allB (fun t => x.ck10 u (t + 1)) x.ni = false then (10, fun _ => 0) else if allB (x.ck11 (x.reach u)) (x.ni + 1) = false then (11, fun _ => 0)
        else if allB x.ck12 x.g = false then (12, fun _ => 0) else (0, o)
/-- the image that blocks are -/
def of (L : Nat → Nat → Int) (n : Nat) : Im := ⟨L, n, (hd (L 0) 4).toNat, (hd (L 0) 5).toNat, (hd (L 0) 6).toNat, (hd (L 0) 7).toNat, (g32 (L 0) 16).toNat⟩
end Im
end Go.Proofs.YtnbmmhoofilmfaaDoor
