/- SuperNone: the plain law and the walk. -/
import Derived.Test.YtbbcckopkbiojaaDoorU6h
import Derived.Test.YtbbcckopkbiojaaDoorStore
namespace Go.Proofs.YtbbcckopkbiojaaDoor
open Go.RowKit
set_option linter.unusedVariables false

theorem none_read (v : Int) : readE (fun _ => v) = 60 := by
  have : readA (fun _ => v) = false := by
    unfold readA
    rw [show (g32 (fun _ => v) 0 == 827216465) = false by rw [beq_eq_false_iff_ne]; show v + 256 * v + 65536 * v + 16777216 * v ≠ 827216465; omega]; rfl
  unfold readE; rw [this]; rfl
theorem none_descs (G S I J v : Int) : rdOk G S I J (fun _ => v) = false := by
  unfold rdOk
  cases hm : mayG G S I J with
  | false => rfl
  | true =>
    obtain ⟨h1, h2, h3, h4, h5, h6, h7, h8, h9, h10, h11⟩ := (mayG_iff G S I J).1 hm
    unfold rdIn
    by_cases hv : v = 0
    · subst hv
      have : sumB (fun _ => 0) = false := by
        unfold sumB
        rw [beq_eq_false_iff_ne]
        intro h
        exact crc_noughts (h ▸ by decide)
      rw [this]; rfl
    · have : allZ (fun i => (fun _ => v) (8 * G.toNat + i)) (252 - 8 * G.toNat) = false := allZ_no (j := 0) (by omega) hv
      rw [this]; simp

structure N6 (w : World) (G S I J : Int) (g : Nat) (z : Nat → Int) (W : World) : Prop where
  s : At W w.heap.size 23 (gcells G S I J)
  b : Blk W g 29 256 z
  t : Tab W
  bel : Below w.heap.size w W
theorem N6.below {w : World} {G S I J : Int} {g : Nat} {z : Nat → Int} {W W' : World} (h : N6 w G S I J g z W) (hb : Below W.heap.size W W') : N6 w G S I J g z W' := ⟨h.s.below hb h.s.lt, h.b.below hb h.b.lt, h.t.below hb (Nat.le_refl _), h.bel.trans (hb.mono h.bel.size)⟩
theorem N6.step {w : World} {G S I J : Int} {g : Nat} {z z' : Nat → Int} {W W' : World} (h : N6 w G S I J g z W) (hb : Only g W W') (hg : w.heap.size < g) (hT : 0 < w.heap.size) (hB : Blk W' g 29 256 z') : N6 w G S I J g z' W' :=
  ⟨h.s.only hb (by omega), hB, h.t.only hb (by omega), h.bel.trans (hb.below (by omega))⟩

set_option maxRecDepth 100000 in
set_option maxHeartbeats 4000000 in
theorem superNone_walk (v : Int) (hv : 0 ≤ v ∧ v < 256) (G S I J : Int) (w : World) (hT : Tab w) :
    Calls Tryd.prog 8 #[.int .u8 v, gval G S I J] w fun e w' => e = .returned (.bool true) ∧ Below w.heap.size w w' := by
  have hal := zero_block
  have hals := zero_super
  have hTl := hT.lt
  have hs0 := At.new w 23 (gcells G S I J)
  have hL0 : Below w.heap.size w (w.alloc (.cells (gcells G S I J) 23)) := (Below.refl _ _).alloc (Nat.le_refl _) _
  have HT0 := Lib.hid (hT.alloc (.cells (gcells G S I J) 23))
  have HS0 := Lib.hid hs0
  clear hT
  go_enter Tryd.func8, Tryd.ntmps8
  go_wp2_with fail
  refine (awake6 _ HT0.out).mono ?_
  rintro e w1 ⟨rfl, hb1⟩
  have hs1 := HS0.out.below hb1 HS0.out.lt
  have hL1 : Below w.heap.size w w1 := hL0.trans (hb1.mono hL0.size)
  have hT1 := HT0.out.below hb1 (Nat.le_refl _)
  have hlt1 := hs1.lt
  obtain ⟨g, hg⟩ : ∃ g, g = w1.heap.size := ⟨_, rfl⟩
  have st0 : Hid (N6 w G S I J g (fun i => if i < 0 then v else 0) (w1.alloc (.cells (Ks .u8 256 (fun _ => 0)).toArray 29))) :=
    ⟨hs1.alloc _, by rw [hg]; exact (Blk.new w1 _ _ _).congr fun i _ => by rw [if_neg (by omega)], hT1.alloc _, hL1.alloc hL1.size _⟩
  have hgl : w.heap.size < g := by omega
  clear hs0 HS0 HT0 hL0 hb1 hs1 hL1 hT1 hlt1
  go_wp2_with fail
  rw [← hg]
  clear hg
  go_loopw [6] (fun u wr => ∃ k : Nat, k ≤ 256 ∧ u = .int .i64 (k : Int) ∧ N6 w G S I J g (fun i => if i < k then v else 0) wr) (fun u _ => 256 - (intOf u).toNat)
  case atStart => exact ⟨0, by omega, rfl, st0.out⟩
  case round =>
    clear st0
    obtain ⟨k, hk, rfl, st⟩ := hrel
    by_cases hlt : k < 256
    · have hB := st.b
      have l1 : (k : Int) < 256 := by omega
      go_wp2_with (first | (refine wp_storeByte rfl (.tmp 19) (.tmp 18) rfl g k v rfl rfl hB hlt ?_))
      intro w7 hb7 ho7
      have st7 : N6 w G S I J g (fun i => if i < k + 1 then v else 0) w7 := st.step ho7 hgl hTl (hb7.congr fun i _ => by
        unfold over
        by_cases e : k ≤ i ∧ i < k + 1
        · rw [if_pos e, if_pos (by omega)]
        · rw [if_neg e]
          show (if i < k then v else 0) = _
          by_cases e2 : i < k
          · rw [if_pos e2, if_pos (by omega)]
          · rw [if_neg e2, if_neg (by omega)])
      clear st hB hb7 ho7
      go_wp2_with fail
      go_roundw
      case rel => first | exact ⟨k + 1, by omega, by go_num, st7⟩ | exact ⟨k + 1, by omega, rfl, st7⟩
      case measure => simp [intOf]; omega
    · obtain rfl : k = 256 := by omega
      have st2 : N6 w G S I J g (fun _ => v) wr := ⟨st.s, st.b.congr fun i hi => by rw [if_pos hi], st.t, st.bel⟩
      have HST := Lib.hid st2
      have hB := st2.b
      have hzb : Byt (fun _ => v) := fun _ => hv
      clear st st2
      go_wp2_with (first | (refine wp_loadBlkG rfl (.tmp 5) rfl g (fun _ => v) rfl hB ?_))
      refine (superRead_any (fun _ => v) hzb _ HST.out.t).mono ?_
      rintro e w8 ⟨rfl, hb8⟩
      rw [none_read, readV_no (.inl (none_read v))]
      have st8 := HST.out.below hb8
      clear HST hB hb8
      have st9 := st8.below ((Below.refl _ _).alloc (Nat.le_refl _) (.cells (scells 0 0 0 0 0) 26))
      have hS9 := st9.s
      have hB9 := st9.b
      have HST9 := Lib.hid st9
      clear st8 st9
      go_wp2_with (first | (refine wp_loadBlkG rfl (.tmp 5) rfl g (fun _ => v) rfl hB9 ?_) | (refine wp_loadAtG rfl 23 (.tmp 3) rfl _ _ _ rfl hS9 Tryd.underlying23 rfl (by kernel_rfl) ?_))
      refine (superReadDescs_any G S I J (fun _ => v) hzb _ HST9.out.t).mono ?_
      rintro e w10 ⟨u, E, rfl, hpost, hb10⟩
      have HBL : Hid (Below w.heap.size w w10) := HST9.out.bel.trans (hb10.mono HST9.out.bel.size)
      have hE : (E != 0) = true := by
        rcases hpost with ⟨h, _⟩ | ⟨_, h, _⟩
        · rw [none_descs] at h; cases h
        · rw [h]; split <;> rfl
      clear hpost hb10 HST9 hS9 hB9
      go_wp2_with fail
      go_ret
      exact ⟨rfl, HBL.out⟩
end Go.Proofs.YtbbcckopkbiojaaDoor
