/- Texts of this claim, merged by a program (a claim may have 60 files): Sd3, Sd4. -/
import Derived.Test.YtnbmmhoofilmfaaDoorK41
import Derived.Test.YtnbmmhoofilmfaaDoorK32
import Derived.Test.YtnbmmhoofilmfaaDoorK27
import Derived.Test.YtnbmmhoofilmfaaDoorK19
/- quernlaw18.Image of a journal with 255 blocks of one byte. -/
namespace Go.Proofs.YtnbmmhoofilmfaaDoor
open Go.RowKit
set_option linter.unusedVariables false

abbrev jcells (G S I J s t : Int) (oa : Option Addr) (on oc : Nat) : Array Value := #[.int .i64 G, .int .i64 S, .int .i64 I, .int .i64 J, .int .u32 s, .int .i64 t, .slice none 0 0, .slice none 0 0, .slice oa on oc]
/-- the image while the ring's blocks are told -/
def imI (f : Int) (i b : Nat) : Nat → Int := if 3 ≤ b ∧ b < 3 + i then rowB f false else fun _ => 0
def imF (f : Int) (j : Nat) (s t : Int) (b : Nat) : Nat → Int := if b = 2 then headZ s t else imI f (j - 1) b
structure Im18 (w : World) (G S I J s t : Int) (oa : Option Addr) (oc q N : Nat) (f : Nat → Nat → Int) (W : World) : Prop where
  x : At W w.heap.size 41 (jcells G S I J s t oa 255 oc)
  a : RArr W q 32 256 N (bkF f)
  bel : Below w.heap.size w W
section
variable {w : World} {G S I J s t : Int} {oa : Option Addr} {oc q N : Nat} {f : Nat → Nat → Int} {W W' : World}
theorem Im18.below (h : Im18 w G S I J s t oa oc q N f W) (hb : Below W.heap.size W W') : Im18 w G S I J s t oa oc q N f W' :=
  ⟨h.x.below hb h.x.lt, h.a.below hb, h.bel.trans (hb.mono h.bel.size)⟩
theorem jc_geo {p : Nat} {on : Nat} (h : At W p 41 (jcells G S I J s t oa on oc)) : W.rangeAt p 0 (gcells G S I J).toList := fun k v hv => by
  have hk := (List.getElem?_eq_some_iff.1 hv).1
  exact h.range k v (by rw [show (jcells G S I J s t oa on oc).toList = (gcells G S I J).toList ++ [.int .u32 s, .int .i64 t, .slice none 0 0, .slice none 0 0, .slice oa on oc] from rfl, List.getElem?_append_left hk]; exact hv)
theorem jc_head {p : Nat} {on : Nat} (h : At W p 41 (jcells G S I J s t oa on oc)) : W.rangeAt p 4 [.int .u32 s, .int .i64 t] := fun k v hv => by
  have hk : k < 2 := (List.getElem?_eq_some_iff.1 hv).1
  have := h.range (4 + k) v (by
    have : k = 0 ∨ k = 1 := by omega
    rcases this with rfl | rfl <;> exact hv)
  rwa [Nat.zero_add] at this
end
theorem info_blk18 : (Tryd.prog.info? 32).map (fun i => (i.zero, i.size, i.bytes)) = some (some (bval fun _ => 0), 256, 256) := by kernel_rfl
theorem run_mk18 (n : Nat) (hn : n ≤ 2048) (W : World) : (Instr.makeSlice 24 (.int .i64 (n : Int)) (.int .i64 (n : Int))).run Tryd.prog W = .ok (.slice (some ⟨W.heap.size, 0, none⟩) n n) (W.alloc (.cells (madeCells (bval fun _ => 0).cells (n * 256)) 32)) :=
  run_mkrow (P := Tryd.prog) 24 32 (bval fun _ => 0) 256 256 Tryd.underlying24 info_blk18 .i64 .i64 n (by omega) (by omega) W
theorem img_mk18 (w : World) (n : Nat) : RArr (w.alloc (.cells (madeCells (bval fun _ => 0).cells (n * 256)) 32)) w.heap.size 32 256 n (fun _ => Ks .u8 256 (fun _ => 0)) :=
  RArr.made (m := 256) w (Ks .u8 256 (fun _ => 0)).toArray (by simp [Ks]) (by omega) n 32
theorem rows18 (f : Int) : ∀ i : Nat, ([.int .i64 0, .int .u8 f, .bool false] : List Value).length = 3 := fun _ => rfl

set_option maxRecDepth 100000 in
set_option maxHeartbeats 8000000 in
theorem image18_any (G S I J s t f : Int) (hs : 0 ≤ s ∧ s < 4294967296) (ht : -9223372036854775808 ≤ t ∧ t ≤ 9223372036854775807) (hf : 0 ≤ f ∧ f < 256) (b off oc : Nat) (w : World) (hb : b < w.heap.size) (hr : RSeg w b off 3 255 (fun _ => [.int .i64 0, .int .u8 f, .bool false])) :
    Calls Tryd.prog 21 #[.agg (jcells G S I J s t (some ⟨b, off, none⟩) 255 oc)] w fun e w' => ∃ q N : Nat, (N : Int) = nBl G S I J ∧ e = .returned (.slice (some ⟨q, 0, none⟩) N N) ∧ w.heap.size ≤ q ∧
      RArr w' q 32 256 N (bkF (imF f J.toNat s t)) ∧ Below w.heap.size w w' := by
  have hs0 := At.new w 41 (jcells G S I J s t (some ⟨b, off, none⟩) 255 oc)
  have HL0 : Hid (Below w.heap.size w (w.alloc (.cells (jcells G S I J s t (some ⟨b, off, none⟩) 255 oc) 41))) := (Below.refl _ _).alloc (Nat.le_refl _) _
  have hg0 := jc_geo hs0
  go_enter Tryd.func21, Tryd.ntmps21
  go_wp2_with (first | (refine wp_loadMid rfl 23 (.tmp 14) rfl w.heap.size 0 (gcells G S I J).toList _ rfl hg0 Tryd.underlying23 rfl (by kernel_rfl) ?_))
  refine (rBlocks_any G S I J _).mono ?_
  rintro e w1 ⟨rfl, hb1⟩
  have x1 := hs0.below hb1 hs0.lt
  have L1 := HL0.out.trans (hb1.mono HL0.out.size)
  obtain ⟨N, hN, hN9⟩ : ∃ N : Nat, nBl G S I J = (N : Int) ∧ N ≤ 2048 := by
    unfold nBl
    cases hm : mayG G S I J with
    | false => exact ⟨0, rfl, by decide⟩
    | true =>
      obtain ⟨h1, h2, h3, h4, _, _, _, _, _, _, h5⟩ := (mayG_iff G S I J).1 hm
      have := (GS_bd h1 h2 h3 h4).1
      exact ⟨(2 + J + G * S).toNat, by rw [if_pos rfl]; omega, by omega⟩
  rw [hN]
  have HN := Lib.hid hN
  obtain ⟨q, hq⟩ : ∃ q, q = w1.heap.size := ⟨_, rfl⟩
  have ST1 : Hid (Im18 w G S I J s t (some ⟨b, off, none⟩) oc q N (imI f 0) (w1.alloc (.cells (madeCells (bval fun _ => 0).cells (N * 256)) 32))) :=
    ⟨x1.alloc _, by
      rw [hq]
      refine (img_mk18 w1 N).congr fun i _ => ?_
      unfold bkF imI
      rw [if_neg (by omega)], L1.alloc (by have := x1.lt; omega) _⟩
  have hqw : w.heap.size < q := by rw [hq]; exact x1.lt
  have hmk := run_mk18 N hN9 w1
  rw [← hq] at hmk
  obtain ⟨W1, hW1⟩ : ∃ W1, W1 = w1.alloc (.cells (madeCells (bval fun _ => 0).cells (N * 256)) 32) := ⟨_, rfl⟩
  rw [← hW1] at hmk ST1
  have HQ := Lib.hid hqw
  have n0 : (0 : Int) ≤ (N : Int) := by omega
  clear hs0 HL0 hg0 hb1 x1 L1 hW1 hq hqw hN
  by_cases hz : N = 0
  · subst hz
    have hmk0 : (Instr.makeSlice 24 (.int .i64 0) (.int .i64 0)).run Tryd.prog w1 = .ok (.slice (some ⟨q, 0, none⟩) 0 0) W1 := hmk
    go_wp2_with fail
    go_ret
    exact ⟨q, 0, HN.out.symm, rfl, by have := HQ.out; omega, ST1.out.a.congr (fun i hi => by omega), ST1.out.bel⟩
  have hnz : ¬ (N : Int) = 0 := by omega
  have hm : mayG G S I J = true := by
    cases hm : mayG G S I J with
    | true => rfl
    | false => have := HN.out; unfold nBl at this; rw [hm] at this; exact absurd this.symm hnz
  obtain ⟨_, _, _, _, _, _, _, hj0, hj9, _, _⟩ := (mayG_iff G S I J).1 hm
  obtain ⟨j, rfl⟩ : ∃ j : Nat, J = (j : Int) := ⟨J.toNat, by omega⟩
  have hjN : 2 + j ≤ N := by
    have h := HN.out
    unfold nBl at h
    rw [hm, if_pos rfl] at h
    obtain ⟨h1, h2, h3, h4, _⟩ := (mayG_iff G S I j).1 hm
    have := (GS_bd h1 h2 h3 h4).1
    omega
  have HJ : Hid (40 ≤ j ∧ j ≤ 256 ∧ 2 + j ≤ N) := ⟨by omega, by omega, hjN⟩
  clear hm hjN
  go_wp2_with fail
  rw [show ((N : Int) == 0) = false from beq_eq_false_iff_ne.2 hnz]
  go_loopw [4] (fun v wr => ∃ i : Nat, v = .int .i64 (i : Int) ∧ i ≤ j - 1 ∧ Im18 w G S I (j : Int) s t (some ⟨b, off, none⟩) oc q N (imI f i) wr) (fun v _ => j - 1 - (intOf v).toNat)
  case atStart => exact ⟨0, rfl, Nat.zero_le _, ST1.out⟩
  case round =>
    clear ST1 hmk
    obtain ⟨i, rfl, hi, st⟩ := hrel
    have i0 : (0 : Int) ≤ (i : Int) := by omega
    have i9 : (i : Int) ≤ 255 := by have := HJ.out; omega
    have d3 : wr.cell? ⟨w.heap.size, 3, none⟩ = some (.int .i64 (j : Int)) := st.x.cell (i := 3) rfl
    have d8 : wr.cell? ⟨w.heap.size, 8, none⟩ = some (.slice (some ⟨b, off, none⟩) 255 oc) := st.x.cell (i := 8) rfl
    by_cases hlt : i < j - 1
    · have l1 : (i : Int) < 255 := by have := HJ.out; omega
      have l2 : (i : Int) < (j : Int) - 1 := by omega
      have hrow : wr.rangeAt b (off + i * 3) [.int .i64 0, .int .u8 f, .bool false] := by
        have := hr.below st.bel hb
        exact RSeg.range this i (by omega)
      have kN : 3 + (i : Int) < (N : Int) := by have := HJ.out; omega
      have ST := Lib.hid st
      clear st
      go_wp2_with (first | (refine wp_loadMid rfl 63 (.tmp 43) rfl b (off + i * 3) [.int .i64 0, .int .u8 f, .bool false] _ rfl hrow Tryd.underlying63 rfl (by kernel_rfl) ?_))
      refine (block15b_any 0 f hf false wr).mono ?_
      rintro e w5 ⟨rfl, hb5⟩
      have st5 := ST.out.below hb5
      have hkN : 3 + i < N := by have := HJ.out; omega
      have hth := st5.a.there hkN
      have hset := Lib.hid (st5.a.set hkN (vs := Ks .u8 256 (rowB f false)) (by simp [Ks]) (bkF_len _))
      have STN : Hid (Im18 w G S I (j : Int) s t (some ⟨b, off, none⟩) oc q N (imI f (i + 1)) (w5.setCells q ((3 + i) * 256) (Ks .u8 256 (rowB f false)))) := by
        have ho := hset.out.2
        have hq := HQ.out
        refine ⟨st5.x.only ho (by omega), hset.out.1.congr fun c hc => ?_, st5.bel.trans (ho.below (by omega))⟩
        unfold bkF imI
        by_cases e : c = 3 + i
        · rw [if_pos e, if_pos (by omega)]
        · rw [if_neg e]
          by_cases e2 : 3 ≤ c ∧ c < 3 + i
          · rw [if_pos e2, if_pos (by omega)]
          · rw [if_neg e2, if_neg (by omega)]
      have hthD : w5.there q ((3 + i) * 256) (Ks .u8 256 (rowB f false)).length := by rw [Ks_length]; exact hth
      clear ST st5 hth hset hrow d3 d8 hb5
      go_wp2_with (first | (refine wp_storeMid rfl 32 (.tmp 46) (.tmp 45) rfl q ((3 + i) * 256) (Ks .u8 256 (rowB f false)) rfl rfl hthD (by rw [Ks_length]; exact info_block) (Ks_oneL _ _ _) ?_))
      intro w6 hw6
      rw [← hw6.out] at STN
      clear hw6 hthD
      go_wp2_with fail
      go_roundw
      case rel => first | exact ⟨i + 1, by first | rfl | go_num, by omega, STN.out⟩ | ((repeat apply Exists.intro); exact ⟨⟨i + 1, by first | rfl | go_num, by omega, STN.out⟩, rfl⟩)
      case measure => simp [intOf]; omega
    · obtain rfl : i = j - 1 := by omega
      have l2 : ¬ ((j - 1 : Nat) : Int) < (j : Int) - 1 := by have := HJ.out; omega
      have ST := Lib.hid st
      clear st
      have hh := jc_head ST.out.x
      by_cases l1 : ((j - 1 : Nat) : Int) < 255
      · go_wp2_with (first | (refine wp_loadMid rfl 36 (.tmp 49) rfl w.heap.size 4 [.int .u32 s, .int .i64 t] _ rfl hh Tryd.underlying36 rfl (by kernel_rfl) ?_))
        refine (rWriteHead_any s t wr hs ht).mono ?_
        rintro e w5 ⟨rfl, hb5⟩
        have st5 := ST.out.below hb5
        have h2N : 2 < N := by have := HJ.out; omega
        have h2i : (2 : Int) < (N : Int) := by omega
        have hth := st5.a.there h2N
        have hset := Lib.hid (st5.a.set h2N (vs := Ks .u8 256 (headZ s t)) (by simp [Ks]) (bkF_len _))
        have STN : Hid (Im18 w G S I (j : Int) s t (some ⟨b, off, none⟩) oc q N (imF f j s t) (w5.setCells q (2 * 256) (Ks .u8 256 (headZ s t)))) := by
          have ho := hset.out.2
          have hq := HQ.out
          refine ⟨st5.x.only ho (by omega), hset.out.1.congr fun c hc => ?_, st5.bel.trans (ho.below (by omega))⟩
          unfold bkF imF
          by_cases e : c = 2
          · rw [if_pos e, if_pos e]
          · rw [if_neg e, if_neg e]
        have hthD : w5.there q (2 * 256) (Ks .u8 256 (headZ s t)).length := by rw [Ks_length]; exact hth
        clear ST st5 hth hset hb5 d3 d8 hh
        go_wp2_with (first | (refine wp_storeMid rfl 32 (.tmp 54) (.tmp 52) rfl q (2 * 256) (Ks .u8 256 (headZ s t)) rfl rfl hthD (by rw [Ks_length]; exact info_block) (Ks_oneL _ _ _) ?_))
        intro w6 hw6
        rw [← hw6.out] at STN
        clear hw6 hthD
        have d5 : w6.cell? ⟨w.heap.size, 5, none⟩ = some (.int .i64 t) := STN.out.x.cell (i := 5) rfl
        have d6 : w6.cell? ⟨w.heap.size, 6, none⟩ = some (.slice none 0 0) := STN.out.x.cell (i := 6) rfl
        have d7 : w6.cell? ⟨w.heap.size, 7, none⟩ = some (.slice none 0 0) := STN.out.x.cell (i := 7) rfl
        go_wp2_with fail
        go_loopw [6] (fun v wr => v = .int .i64 0 ∧ wr = w6) (fun _ _ => 0)
        case atStart => exact ⟨rfl, rfl⟩
        case round =>
          obtain ⟨rfl, hwr⟩ := hrel
          have hwr2 := hwr.symm
          subst hwr2
          go_wp2_with fail
          go_loopw [11] (fun v wr => v = .int .i64 0 ∧ wr = w6) (fun _ _ => 0)
          case atStart => exact ⟨rfl, rfl⟩
          case round =>
            obtain ⟨rfl, hwr⟩ := hrel
            have hwr2 := hwr.symm
            subst hwr2
            go_wp2_with fail
            go_ret
            exact ⟨q, N, HN.out.symm, rfl, by have := HQ.out; omega, STN.out.a, STN.out.bel⟩
      · go_wp2_with (first | (refine wp_loadMid rfl 36 (.tmp 49) rfl w.heap.size 4 [.int .u32 s, .int .i64 t] _ rfl hh Tryd.underlying36 rfl (by kernel_rfl) ?_))
        refine (rWriteHead_any s t wr hs ht).mono ?_
        rintro e w5 ⟨rfl, hb5⟩
        have st5 := ST.out.below hb5
        have h2N : 2 < N := by have := HJ.out; omega
        have h2i : (2 : Int) < (N : Int) := by omega
        have hth := st5.a.there h2N
        have hset := Lib.hid (st5.a.set h2N (vs := Ks .u8 256 (headZ s t)) (by simp [Ks]) (bkF_len _))
        have STN : Hid (Im18 w G S I (j : Int) s t (some ⟨b, off, none⟩) oc q N (imF f j s t) (w5.setCells q (2 * 256) (Ks .u8 256 (headZ s t)))) := by
          have ho := hset.out.2
          have hq := HQ.out
          refine ⟨st5.x.only ho (by omega), hset.out.1.congr fun c hc => ?_, st5.bel.trans (ho.below (by omega))⟩
          unfold bkF imF
          by_cases e : c = 2
          · rw [if_pos e, if_pos e]
          · rw [if_neg e, if_neg e]
        have hthD : w5.there q (2 * 256) (Ks .u8 256 (headZ s t)).length := by rw [Ks_length]; exact hth
        clear ST st5 hth hset hb5 d3 d8 hh
        go_wp2_with (first | (refine wp_storeMid rfl 32 (.tmp 54) (.tmp 52) rfl q (2 * 256) (Ks .u8 256 (headZ s t)) rfl rfl hthD (by rw [Ks_length]; exact info_block) (Ks_oneL _ _ _) ?_))
        intro w6 hw6
        rw [← hw6.out] at STN
        clear hw6 hthD
        have d5 : w6.cell? ⟨w.heap.size, 5, none⟩ = some (.int .i64 t) := STN.out.x.cell (i := 5) rfl
        have d6 : w6.cell? ⟨w.heap.size, 6, none⟩ = some (.slice none 0 0) := STN.out.x.cell (i := 6) rfl
        have d7 : w6.cell? ⟨w.heap.size, 7, none⟩ = some (.slice none 0 0) := STN.out.x.cell (i := 7) rfl
        go_wp2_with fail
        go_loopw [6] (fun v wr => v = .int .i64 0 ∧ wr = w6) (fun _ _ => 0)
        case atStart => exact ⟨rfl, rfl⟩
        case round =>
          obtain ⟨rfl, hwr⟩ := hrel
          have hwr2 := hwr.symm
          subst hwr2
          go_wp2_with fail
          go_loopw [11] (fun v wr => v = .int .i64 0 ∧ wr = w6) (fun _ _ => 0)
          case atStart => exact ⟨rfl, rfl⟩
          case round =>
            obtain ⟨rfl, hwr⟩ := hrel
            have hwr2 := hwr.symm
            subst hwr2
            go_wp2_with fail
            go_ret
            exact ⟨q, N, HN.out.symm, rfl, by have := HQ.out; omega, STN.out.a, STN.out.bel⟩
end Go.Proofs.YtnbmmhoofilmfaaDoor

/- ScanFilled, plainly: a ring of one byte has no transactions. -/
namespace Go.Proofs.YtnbmmhoofilmfaaDoor
open Go.RowKit
set_option linter.unusedVariables false

theorem seq_one {f : Int} (hf : 0 ≤ f ∧ f < 256) : seqOf (fun _ => f) = 0 := by
  have h : kindB (fun _ => f) = false := by
    unfold kindB
    have : wd (fun _ => f) 0 ≠ 1280199249 := by unfold wd g32; dsimp only; omega
    rw [beq_eq_false_iff_ne.2 this]; rfl
  unfold seqOf
  rw [h]; rfl
theorem headRd_zero : headRd (fun _ => 0) = false := by
  have hk : kindOf (fun _ => 0) = 0 := by
    have h : kindB (fun _ => 0) = false := by
      unfold kindB
      rw [wd_zero 0]
      rfl
    unfold kindOf
    rw [h]; rfl
  unfold headRd
  rw [hk]; rfl
def eF (G S I J s t f : Int) (N : Nat) : Int := fdE G S I J N (imF f J.toNat s t)
theorem imF_2 (f : Int) (j : Nat) (s t : Int) : imF f j s t 2 = headZ s t := by unfold imF; rw [if_pos rfl]
theorem eF_zero {G S I J s t f : Int} {N : Nat} (hf : 0 ≤ f ∧ f < 256) (h : eF G S I J s t f N = 0) :
    fdL J (imF f J.toNat s t) = [] ∧ hdS (imF f J.toNat s t 2) = s ∧ hdT (imF f J.toNat s t 2) = t ∧ s + 1 ≤ 2147483648 := by
  unfold eF fdE at h
  rw [imF_2] at h ⊢
  split at h
  · exact absurd h (by decide)
  rename_i hm
  split at h
  · exact absurd h (by decide)
  split at h
  · exact absurd h (by decide)
  rename_i hh
  have hr : headRd (headZ s t) = true := by
    cases e : headRd (headZ s t) with
    | true => rfl
    | false => exact absurd (.inl e) hh
  have hok : headOk s t = true := by
    cases e : headOk s t with
    | true => rfl
    | false =>
      have : headZ s t = fun _ => 0 := by unfold headZ; rw [e]; rfl
      rw [this, headRd_zero] at hr
      cases hr
  obtain ⟨_, h2, h3⟩ := head_rd hok
  have hJ : ¬ J ≤ t := fun e => hh (.inr (by rw [h3]; exact e))
  have hm' : mayG G S I J = true := by
    cases e : mayG G S I J with
    | true => rfl
    | false => exact absurd e hm
  obtain ⟨_, _, _, _, _, _, _, hj0, hj9, _⟩ := (mayG_iff G S I J).1 hm'
  have hs1 : 1 ≤ s := by
    unfold headOk at hok
    rw [Bool.and_eq_true] at hok
    exact (seqB_bd hok.1).1
  have hfd : fdL J (imF f J.toNat s t) = [] := by
    unfold fdL
    rw [imF_2, h2, h3]
    split
    · rename_i h0
      refine fnd_none (unp_seq ?_)
      show seqOf (ringL (imF f J.toNat s t) J.toNat t.toNat 0) ≠ s
      have : ringL (imF f J.toNat s t) J.toNat t.toNat 0 = fun _ => f := by
        unfold ringL
        have hlt := Nat.mod_lt (t.toNat - 1 + 0) (show 0 < J.toNat - 1 by omega)
        unfold imF imI
        rw [if_neg (by omega), if_pos (by omega)]
        rfl
      rw [this, seq_one hf]
      omega
    · rfl
  rw [hfd] at h
  refine ⟨hfd, h2, h3, ?_⟩
  rw [h2] at h
  rw [if_neg (show ¬ (([] : List Tr).all (outTr G S I J) = false) by simp), List.length_nil] at h
  by_cases hb : 2147483648 < s + ((0 : Nat) : Int) + 1
  · rw [if_pos hb] at h
    exact absurd h (by decide)
  · omega
end Go.Proofs.YtnbmmhoofilmfaaDoor
