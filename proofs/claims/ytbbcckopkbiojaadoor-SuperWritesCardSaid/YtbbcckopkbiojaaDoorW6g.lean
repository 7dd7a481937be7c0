/- SuperWrites. -/
import Derived.Test.YtbbcckopkbiojaaDoorU6s
import Derived.Test.YtbbcckopkbiojaaDoorU6w
import Derived.Test.YtbbcckopkbiojaaDoorU6i
import Derived.Test.YtbbcckopkbiojaaDoorCopyL
namespace Go.Proofs.YtbbcckopkbiojaaDoor
open Go.RowKit
set_option linter.unusedVariables false

theorem row_news {W : World} {ad : Addr} {n : Nat} {f : Nat → List Value} {m : Nat} (hm : 0 < m) (hf : ∀ i, (f i).length = m) (hr : RRow W (some ad) m n f) : ∀ (j : Nat) (u : Value), (Cs f n)[j]? = some u → W.cell? (ad.add j) = some u := by
  intro j u hj
  have hjn : j < n * m := by have := (List.getElem?_eq_some_iff.1 hj).1; rwa [Cs_length hf] at this
  have hq : j / m < n := (Nat.div_lt_iff_lt_mul hm).2 hjn
  have hrr : j % m < m := Nat.mod_lt _ hm
  have he : j / m * m + j % m = j := by rw [Nat.mul_comm]; exact Nat.div_add_mod j m
  rcases hr with h0 | ⟨b, off, hee, hseg⟩
  · rw [h0, Nat.zero_mul] at hjn; omega
  · injection hee with hee; subst hee
    have h4 := Cs_get hf hq hrr
    rw [he, hj] at h4
    have h5 := hseg (j / m) hq (j % m) u h4.symm
    rw [Nat.add_assoc, he] at h5
    rw [addr_add]; exact h5
structure V6 (w : World) (G S I J O G' S' I' J' : Int) (v : Value) (n : Nat) (f : Nat → List Value) (W : World) : Prop where
  s : At W w.heap.size 26 (scells G S I J O)
  q : At W (w.heap.size + 1) 23 (gcells G' S' I' J')
  m : RMine W (w.heap.size + 2) 48 3 v n f
  t : Tab W
  bel : Below w.heap.size w W
theorem V6.below {w : World} {G S I J O G' S' I' J' : Int} {v : Value} {n : Nat} {f : Nat → List Value} {W W' : World} (h : V6 w G S I J O G' S' I' J' v n f W) (hb : Below W.heap.size W W') : V6 w G S I J O G' S' I' J' v n f W' :=
  ⟨h.s.below hb h.s.lt, h.q.below hb h.q.lt, h.m.below hb, h.t.below hb (Nat.le_refl _), h.bel.trans (hb.mono h.bel.size)⟩
theorem stored {w w' : World} {o : Obj} (ho : Only w.heap.size (w.alloc o) w') : Below w.heap.size w w' := ((Below.refl _ _).alloc (Nat.le_refl _) o).trans (ho.below (Nat.le_refl _))
theorem info_parts3 : ∃ i, Tryd.prog.info? 48 = some i ∧ i.zero = some (dval 0 0 0) ∧ i.size = 3 ∧ i.bytes = 24 := by
  obtain ⟨i, hi, h⟩ := Option.map_eq_some_iff.1 info_desc3
  simp only [Prod.mk.injEq] at h
  exact ⟨i, hi, h.1, h.2.1, h.2.2⟩
theorem run_desc0 (w : World) : (Instr.buildSlice 27 0 #[]).run Tryd.prog w = .ok (.slice (some ⟨w.heap.size, 0, none⟩) 0 0) (w.alloc (.cells #[] 48)) := by kernel_rfl
theorem Cs_df_one (b i d : Nat → Int) (n : Nat) : ∀ u ∈ Cs (df b i d) n, u.oneCell' = true := Cs_one (df_one b i d) n

set_option maxRecDepth 100000 in
set_option maxHeartbeats 8000000 in
theorem superWrites_walk (G S I J O : Int) (hO : 0 ≤ O ∧ O < 4294967296) (G' S' I' J' : Int) (a : Option Addr) (n cap : Nat) (b i d : Nat → Int) (hn : (n : Int) ≤ 9223372036854775807) (hno : a = none → n = 0 ∧ cap = 0) (w : World) (hT : Tab w) (hr : RRow w a 3 n (df b i d)) :
    Calls Tryd.prog 3 #[sval G S I J O, gval G' S' I' J', .slice a n cap] w fun e w' => e = .returned (.bool true) ∧ Below w.heap.size w w' := by
  have hal := zero_block
  have hTl := hT.lt
  have HR := Lib.hid hr
  have hs0 : At ((w.alloc (.cells (scells G S I J O) 26)).alloc (.cells (gcells G' S' I' J') 23)) w.heap.size 26 (scells G S I J O) := (At.new w _ _).alloc _
  have hq0 : At ((w.alloc (.cells (scells G S I J O) 26)).alloc (.cells (gcells G' S' I' J') 23)) (w.heap.size + 1) 23 (gcells G' S' I' J') := by
    have := At.new (w.alloc (.cells (scells G S I J O) 26)) 23 (gcells G' S' I' J')
    simp only [World.size_alloc] at this
    exact this
  have hL0 : Below w.heap.size w ((w.alloc (.cells (scells G S I J O) 26)).alloc (.cells (gcells G' S' I' J') 23)) := ((Below.refl _ _).alloc (Nat.le_refl _) _).alloc (by simp) _
  have hz0 : ((w.alloc (.cells (scells G S I J O) 26)).alloc (.cells (gcells G' S' I' J') 23)).heap.size = w.heap.size + 2 := by simp
  have HT0 := Lib.hid (((hT.alloc (.cells (scells G S I J O) 26)).alloc (.cells (gcells G' S' I' J') 23)))
  clear hT hr
  go_enter Tryd.func3, Tryd.ntmps3
  by_cases h1000 : (1000 : Int) < n
  · have HL0 := Lib.hid hL0
    clear hs0 hq0 hz0 hL0
    go_wp2_with fail
    go_ret
    exact ⟨rfl, HL0.out⟩
  have hn1000 : n ≤ 1000 := by omega
  have hbs := run_desc0
  obtain ⟨i0, hi, hy0, hy1, hy2⟩ := info_parts3
  have hown : ((((w.alloc (.cells (scells G S I J O) 26)).alloc (.cells (gcells G' S' I' J') 23))).alloc (.cells #[] 48)).ownsRow (w.heap.size + 2) 48 3 (.slice (some ⟨w.heap.size + 1 + 1, 0, none⟩) 0 0) 0 [] := by
    have := own_nil ((w.alloc (.cells (scells G S I J O) 26)).alloc (.cells (gcells G' S' I' J') 23)) 48 3 (w.heap.size + 2) (by omega)
    simp only [World.size_alloc] at this
    exact this
  have hnews : ∀ ad, a = some ad → ∀ (j : Nat) (u : Value), (Cs (df b i d) n)[j]? = some u → ((((w.alloc (.cells (scells G S I J O) 26)).alloc (.cells (gcells G' S' I' J') 23))).alloc (.cells #[] 48)).cell? (ad.add j) = some u := fun ad had => by
    subst had
    exact row_news (m := 3) (by omega) (df_len b i d) (HR.out.below (df_ne _ _ _ _) (hL0.alloc hL0.size _))
  have hm1 : n ≤ maxLen := by unfold maxLen; omega
  have hm2 : n * 24 ≤ 140737488355328 := by omega
  have hm3 : w.heap.size + 2 ≤ ((((w.alloc (.cells (scells G S I J O) 26)).alloc (.cells (gcells G' S' I' J') 23))).alloc (.cells #[] 48)).heap.size := by simp
  have hcl := Cs_length (df_len b i d) n
  have hc1 := Cs_df_one b i d n
  have HS0 := Lib.hid hs0
  have HQ0 := Lib.hid hq0
  have HL0 := Lib.hid hL0
  clear hs0 hq0 hL0 hz0
  go_wp2_with (first | (refine wpList_copy rfl (.tmp 19) (.tmp 20) 27 rfl (w.heap.size + 2) 48 i0 (dval 0 0 0) 3 24 Tryd.underlying27 hi hy0 hy1 hy2 rfl (by decide) (w.heap.size + 1 + 1) rfl hown a n cap (Cs (df b i d) n) rfl hno hcl hnews hc1 hm1 hm2 hm3 ?_))
  intro v7 w7 hown7 hg7
  have st7 : V6 w G S I J O G' S' I' J' v7 n (df b i d) w7 := ⟨(HS0.out.alloc _).grown hg7 (fun e => by injection e with e; omega), (HQ0.out.alloc _).grown hg7 (fun e => by injection e with e; omega), hown7, (HT0.out.alloc _).grown hg7 (fun e => by injection e with e; omega), (HL0.out.alloc HL0.out.size _).grown hg7 (HL0.out.alloc HL0.out.size _).size (fun k e => by injection e with e; omega)⟩
  clear hown hnews hm1 hm2 hm3 hcl hc1 HS0 HQ0 HL0 HT0 hown7 hg7 hbs hi hy0 hy1 hy2
  obtain ⟨a7, cap7, rfl⟩ := st7.m.form
  have hs7 := st7.s
  go_wp2_with (first | (refine wp_loadAtG rfl 26 (.tmp 3) rfl _ _ _ rfl hs7 Tryd.underlying26 rfl (by kernel_rfl) ?_))
  refine (superWrite_any G S I J O hO _ st7.t).mono ?_
  rintro e w8 ⟨rfl, hb8⟩
  have st8 := st7.below hb8
  have hn8 := Blk.new w8 29 256 (fun _ => 0)
  clear st7 hs7 hb8
  go_wp2_with (first | (refine wp_storeBlk rfl (.tmp 8) (.tmp 25) rfl w8.heap.size (supZ G S I J O) _ rfl rfl hn8 ?_))
  intro w9 hB9 ho9
  have st9 := st8.below (stored ho9)
  have hs9 := st9.s
  obtain ⟨g1, hg1⟩ : ∃ g1, w8.heap.size = g1 := ⟨_, rfl⟩
  rw [hg1] at hB9 ⊢
  have HS9 := Lib.hid st9
  have HB9 := Lib.hid hB9
  clear st8 hn8 ho9 hg1 st9 hB9
  go_wp2_with (first | (refine wp_loadAtG rfl 26 (.tmp 3) rfl _ _ _ rfl hs9 Tryd.underlying26 rfl (by kernel_rfl) ?_))
  refine (rsWrite_any G S I J O hO _).mono ?_
  rintro e w10 ⟨rfl, hb10⟩
  have st10 := HS9.out.below hb10
  have hB10 := HB9.out.below hb10 HB9.out.lt
  have hn10 := Blk.new w10 29 256 (fun _ => 0)
  clear HS9 HB9 hs9 hb10
  go_wp2_with (first | (refine wp_storeBlk rfl (.tmp 10) (.tmp 30) rfl w10.heap.size (supZ G S I J O) _ rfl rfl hn10 ?_))
  intro w11 hC11 ho11
  have st11 := st10.below (stored ho11)
  have hB11 := hB10.below (stored ho11) hB10.lt
  have hq11 := st11.q
  obtain ⟨g2, hg2⟩ : ∃ g2, w10.heap.size = g2 := ⟨_, rfl⟩
  rw [hg2] at hC11 ⊢
  have HS11 := Lib.hid st11
  have HB11 := Lib.hid hB11
  have HC11 := Lib.hid hC11
  clear st10 hB10 hn10 ho11 hg2 st11 hB11 hC11
  go_wp2_with (first | (refine wp_loadAtG rfl 23 (.tmp 4) rfl _ _ _ rfl hq11 Tryd.underlying23 rfl (by kernel_rfl) ?_))
  refine (superWriteDescs_any G' S' I' J' a7 n cap7 b i d hn _ HS11.out.t (HS11.out.m.row (df_len _ _ _))).mono ?_
  rintro e w12 ⟨rfl, hb12⟩
  have st12 := HS11.out.below hb12
  have hB12 := HB11.out.below hb12 HB11.out.lt
  have hC12 := HC11.out.below hb12 HC11.out.lt
  have hn12 := Blk.new w12 29 256 (fun _ => 0)
  clear HS11 HB11 HC11 hq11 hb12
  go_wp2_with (first | (refine wp_storeBlk rfl (.tmp 12) (.tmp 36) rfl w12.heap.size (descZ G' S' I' J' n b i d) _ rfl rfl hn12 ?_))
  intro w13 hD13 ho13
  have st13 := st12.below (stored ho13)
  have hB13 := hB12.below (stored ho13) hB12.lt
  have hC13 := hC12.below (stored ho13) hC12.lt
  have hq13 := st13.q
  obtain ⟨g3, hg3⟩ : ∃ g3, w12.heap.size = g3 := ⟨_, rfl⟩
  rw [hg3] at hD13 ⊢
  have HS13 := Lib.hid st13
  have HB13 := Lib.hid hB13
  have HC13 := Lib.hid hC13
  have HD13 := Lib.hid hD13
  clear st12 hB12 hC12 hn12 ho13 hg3 st13 hB13 hC13 hD13
  go_wp2_with (first | (refine wp_loadAtG rfl 23 (.tmp 4) rfl _ _ _ rfl hq13 Tryd.underlying23 rfl (by kernel_rfl) ?_))
  refine (rsWriteDescs_any G' S' I' J' a n cap b i d hn _ (HR.out.below (df_ne _ _ _ _) HS13.out.bel)).mono ?_
  rintro e w14 ⟨rfl, hb14⟩
  have st14 := HS13.out.below hb14
  have hB14 := HB13.out.below hb14 HB13.out.lt
  have hC14 := HC13.out.below hb14 HC13.out.lt
  have hD14 := HD13.out.below hb14 HD13.out.lt
  have hn14 := Blk.new w14 29 256 (fun _ => 0)
  clear HS13 HB13 HC13 HD13 hq13 hb14
  go_wp2_with (first | (refine wp_storeBlk rfl (.tmp 14) (.tmp 42) rfl w14.heap.size (descZ G' S' I' J' n b i d) _ rfl rfl hn14 ?_))
  intro w15 hE15 ho15
  have st15 := st14.below (stored ho15)
  have hB15 := hB14.below (stored ho15) hB14.lt
  have hC15 := hC14.below (stored ho15) hC14.lt
  have hD15 := hD14.below (stored ho15) hD14.lt
  obtain ⟨g4, hg4⟩ : ∃ g4, w14.heap.size = g4 := ⟨_, rfl⟩
  rw [hg4] at hE15 ⊢
  have hq1 : ∀ W, (binOp .eql 29 (bval (supZ G S I J O)) (bval (supZ G S I J O))).run Tryd.prog W = .ok (.bool true) W := fun W => by rw [run_eql_block, eqB_refl]
  have hq2 : ∀ W, (binOp .eql 29 (bval (descZ G' S' I' J' n b i d)) (bval (descZ G' S' I' J' n b i d))).run Tryd.prog W = .ok (.bool true) W := fun W => by rw [run_eql_block, eqB_refl]
  have hse : (supE G S I J O == supE G S I J O) = true := by simp
  have hde : (descE G' S' I' J' n b i d == descE G' S' I' J' n b i d) = true := by simp
  have HSAME := Lib.hid (sameD_any a7 a n n cap7 cap b i d b i d w15 hn hn (st15.m.row (df_len _ _ _)) (HR.out.below (df_ne _ _ _ _) st15.bel))
  have HB := Lib.hid st15.bel
  clear st14 hB14 hC14 hD14 hn14 ho15 hg4 st15 HR
  generalize supE G S I J O = e1 at *
  generalize descE G' S' I' J' n b i d = e2 at *
  generalize supZ G S I J O = z1 at *
  generalize descZ G' S' I' J' n b i d = z2 at *
  go_wp2_with (first | (refine wp_loadBlkG rfl (.tmp 8) rfl g1 z1 rfl hB15 ?_) | (refine wp_loadBlkG rfl (.tmp 10) rfl g2 z1 rfl hC15 ?_) | (refine wp_loadBlkG rfl (.tmp 12) rfl g3 z2 rfl hD15 ?_) | (refine wp_loadBlkG rfl (.tmp 14) rfl g4 z2 rfl hE15 ?_))
  refine HSAME.out.mono ?_
  rintro e w16 ⟨rfl, m, rfl⟩
  rw [(sameD_iff.2 ⟨rfl, fun k hk => ⟨rfl, rfl, rfl⟩⟩ : sameD n n b i d b i d = true)]
  have HBL : Hid (Below w.heap.size w (w15.drewN m)) := bel_drewN HB.out m
  generalize w15.drewN m = w17 at *
  clear HSAME HB hB15 hC15 hD15 hE15
  go_wp2_with fail
  go_ret
  exact ⟨rfl, HBL.out⟩
end Go.Proofs.YtbbcckopkbiojaaDoor
