/- Texts of this claim, merged by a program (a claim may have 60 files): InoPutY. -/
import Derived.Test.YtopakpmepioomaaDoorK22
/- The contract of inode.Put, where the inode may be put. -/
namespace Go.Proofs.YtopakpmepioomaaDoor
open Go.RowKit Go.Shelf
set_option linter.unusedVariables false
attribute [local go_sem] Oper.semAt_some

set_option maxRecDepth 100000 in
set_option maxHeartbeats 4000000 in
theorem inoPut_yes (g : Nat) (T : TypeId) (z : Nat → Int) (hz : Byt z) (a : Int) (x : Ino) (hx : x.Ok) (w : World) (hB : Blk w g T 256 z) (hok : putOk a x = true) :
    Calls Tryd.prog 36 #[.pointer (some ⟨g, 0, none⟩), .int .i64 a, x.val] w fun e w' => e = .returned (.int .i64 0) ∧ Blk w' g T 256 (over z a.toNat 64 x.byte) ∧ w.grownBy w' (some g) := by
  refine (callsIn_wide (n := 5)).1 (callsIn_of_wp_marks Tryd.func36 rfl trivial ?_ rfl)
  refine wpIn_wide.2 ?_
  simp only [Tryd.ntmps36, List.size_toArray, List.length_cons, List.length_nil, Nat.reduceAdd, Nat.reduceSub, Array.replicate_succ, Array.replicate_zero, List.push_toArray, List.append_toArray, List.nil_append, List.cons_append]
  unfold putOk at hok
  rw [Bool.and_eq_true] at hok
  obtain ⟨hp, hm⟩ := hok
  have hpl := (placeB_iff a).1 hp
  have hmay : x.May := of_decide_eq_true hm
  obtain ⟨hsz, hlk, hkd⟩ := Ino.may_bd hmay
  have HP := Lib.hid hp
  have HM := Lib.hid hm
  have HPL := Lib.hid hpl
  have ha0 : 0 ≤ a := by omega
  have ha1 : a ≤ 192 := by omega
  have hgl := hB.lt
  clear hp hm hpl hkd
  obtain ⟨i, rfl⟩ := Int.eq_ofNat_of_zero_le ha0
  obtain ⟨hl0, hl1⟩ := hlk
  go_wp2_with fail
  refine (place_any _ _ (by omega) (by omega)).mono ?_
  rintro e w1 ⟨rfl, rfl⟩
  rw [HP.out]
  go_wp2_with fail
  refine (may_any x hx _).mono ?_
  rintro e w2 ⟨rfl, hb2⟩
  rw [HM.out]
  simp only [World.size_alloc] at hb2
  have hI2 : InoAt w2 w.heap.size 69 x := (hb2.block _ (by omega)).trans (heap_alloc_new w _)
  have hB2 : Blk w2 g T 256 z := (hB.alloc _).below hb2 (by omega)
  have hg2 : w.grownBy w2 (some g) := grown_trans (World.grownBy_alloc w _ _) (by have := grown_below (row := some g) (a := w.alloc (.cells x.arr 69)) (b := w2) (by simp only [World.size_alloc]; exact hb2); exact this)
  have hs2 := hb2.size
  simp only [World.size_alloc] at hs2
  clear hb2 hB
  have hsl := fun W => run_sliceBlk g 0 i (i + 64) (i : Int) ((i : Int) + 64) rfl (by omega) (by omega) (by omega) (by omega) W
  simp only [Nat.zero_add, Nat.add_sub_cancel_left] at hsl
  have hsoft : Hid (∀ W off m, Blk W g T 256 z → Soft W g off m) := fun W off m h => h.soft off m
  go_wp2_with (first | (with_reducible refine wpList_clearB rfl (.tmp 27) 102 rfl 5 Tryd.underlying102 (fun _ => by kernel_rfl) g i 64 _ (fun k => z (i + k)) rfl (by omega) ?seg ?soft ?rest))
  case seg => have := (hB2.alloc (Obj.cells #[Value.slice (some ⟨g, i, none⟩) 64 (256 - i)] 102)).seg.sub i 64 (by omega); rwa [Nat.zero_add] at this
  case soft => exact (hB2.alloc _).soft i 64
  case' rest => intro w3 hp3
  have hB3 := (hB2.alloc (Obj.cells #[Value.slice (some ⟨g, i, none⟩) 64 (256 - i)] 102)).puts hp3
  have hO3 : Boxed w3 w2.heap.size 102 (.slice (some ⟨g, i, none⟩) 64 (256 - i)) := (hp3.only.block _ (by have := hB2.lt; omega)).trans (Boxed.new _ _ _)
  have hI3 : InoAt w3 w.heap.size 69 x := (hp3.only.block _ (by omega)).trans (heap_alloc_keep hI2 _)
  have hg3 : w.grownBy w3 (some g) := grown_trans (grown_trans hg2 (World.grownBy_alloc _ _ _)) (grown_only hp3.only)
  have hs3 : w3.heap.size = w2.heap.size + 1 := by rw [hp3.only.size]; simp
  clear hp3 hB2 hI2 hg2
  have HS3 := Lib.hid hs3
  clear hs3 hsoft
  have c1 := hO3.cell
  have c2 : w3.cell? ⟨w.heap.size, 0, none⟩ = some (.int .u8 x.kind) := hI3.cell (i := 0) rfl
  have c3 : w3.cell? ⟨g, i, none⟩ = some (.int .u8 (over z i 64 (fun _ => 0) i)) := by have := hB3.seg i (by omega); rwa [Nat.zero_add] at this
  have f3 : w3.frozen? ⟨g, i, none⟩ = false := soft_of_heap hB3 i
  have hB4 := hB3.setCell i x.kind (by omega)
  have hO := Only.setCell w3 ⟨g, i, none⟩ (.int .u8 x.kind)
  have hO4 : Boxed (w3.setCell ⟨g, i, none⟩ (.int .u8 x.kind)) w2.heap.size 102 (.slice (some ⟨g, i, none⟩) 64 (256 - i)) := (hO.block _ (by have := hB3.lt; simp; omega)).trans hO3
  have hI4 : InoAt (w3.setCell ⟨g, i, none⟩ (.int .u8 x.kind)) w.heap.size 69 x := (hO.block _ (by simp; omega)).trans hI3
  have hg4 : w.grownBy (w3.setCell ⟨g, i, none⟩ (.int .u8 x.kind)) (some g) := grown_trans hg3 (grown_only hO)
  have d1 := hO4.cell
  have d2 : (w3.setCell ⟨g, i, none⟩ (.int .u8 x.kind)).cell? ⟨w.heap.size, 1, none⟩ = some (.int .i64 x.links) := hI4.cell (i := 1) rfl
  go_wp2_with fail
  refine (put16_yes g i 64 _ 2 x.links _ _ (by omega) (by omega) (by omega) hl0 (by omega) (by have := hB4.seg.sub i 64 (by omega); rw [Nat.zero_add] at this; exact this) (hB4.soft i 64)).mono ?_
  rintro e w5 ⟨rfl, hp5⟩
  rw [show i + (2 : Int).toNat = i + 2 from rfl] at hp5
  have hB5 := hB4.puts hp5
  have hO5 : Boxed w5 w2.heap.size 102 (.slice (some ⟨g, i, none⟩) 64 (256 - i)) := (hp5.only.block _ (by have := hB3.lt; omega)).trans hO4
  have hI5 : InoAt w5 w.heap.size 69 x := (hp5.only.block _ (by omega)).trans hI4
  have hg5 : w.grownBy w5 (some g) := grown_trans hg4 (grown_only hp5.only)
  have hs5 : Hid (w5.heap.size = w2.heap.size + 1) := by show _ = _; rw [hp5.only.size, hO.size]; exact HS3.out
  have hB5 := hB5.congr (fun j _ => x.stage_zero z i j)
  clear hp5 c1 c2 c3 f3 hB4 hO hO4 hI4 hg4 d1 d2 hB3 hO3 hI3 hg3
  go_wp2_with fail
  refine (words_any w.heap.size _).mono ?_
  rintro e w6 ⟨rfl, rfl⟩
  go_wp2_with fail
  have hs5' : w2.heap.size + 1 ≤ w5.heap.size := Nat.le_of_eq hs5.out.symm
  have hlt5 : w.heap.size < w5.heap.size := by omega
  have hgl5 : g < w5.heap.size := hB5.lt
  refine wp_rangeIx (gf := 94) (lb := #[.pointer (some ⟨w5.heap.size, 0, none⟩)]) rfl (enters_of Tryd.func94 (by kernel_rfl) rfl)
    (words_iter 4 (by decide) w5.heap.size w.heap.size x hx hsz) (fun k => rfl)
    (fun k W => Boxed W w2.heap.size 102 (.slice (some ⟨g, i, none⟩) 64 (256 - i)) ∧ Blk W g T 256 (over z i 64 (x.stage k)) ∧ w.grownBy W (some g))
    (fun _ _ _ => False)
    (fun k => { tmps := #[.pointer (some ⟨g, 0, none⟩), .int .i64 (i : Int), x.val, undef, undef, .pointer (some ⟨w.heap.size, 0, none⟩), .int .i64 0, .pointer (some ⟨w2.heap.size, 0, none⟩), .int .i64 (4 + 4 * (k : Int)), .int .u32 (x.word k), .bool false, .pointer (some ⟨g, 0, none⟩), .bool false, .bool false, .int .i64 (i : Int), .bool true, .bool false, .bool false, .agg #[.int .u8 x.kind, .int .i64 x.links, .int .u32 x.gen, .int .i64 x.size, .int .u32 (x.p 0), .int .u32 (x.p 1), .int .u32 (x.p 2), .int .u32 (x.p 3), .int .u32 (x.p 4), .int .u32 (x.p 5), .int .u32 (x.p 6), .int .u32 (x.p 7), .int .u32 (x.p 8), .int .u32 (x.p 9), .int .u32 (x.p 10), .int .u32 x.next], .bool true, .bool false, .pointer (some ⟨g, 0, none⟩), .pointer (some ⟨g, 0, none⟩), .int .i64 (i : Int), .int .i64 (i : Int), .int .i64 ((i : Int) + 64), .slice (some ⟨g, i, none⟩) 64 (256 - i), .slice (some ⟨g, i, none⟩) 64 (256 - i), .slice (some ⟨g, i, none⟩) 64 (256 - i), .pointer (some ⟨w.heap.size, 0, none⟩), .int .u8 x.kind, .pointer (some ⟨g, i, none⟩), .slice (some ⟨g, i, none⟩) 64 (256 - i), .pointer (some ⟨w.heap.size, 1, none⟩), .int .i64 x.links, .int .u32 x.links, .bool true, .func (.func 94) #[] #[.pointer (some ⟨w5.heap.size, 0, none⟩)], .int .i64 (4 + 4 * (k : Int)), .int .u32 (x.word k), undef, undef, undef, undef], defers := [] })
    (fun k => (LocalP.boxed _ _ (by simp; omega)).and ((LocalP.heap _ (by simp; omega)).and (LocalP.grown _ (by simp; omega))))
    (fun c k => LocalP.pure _ _)
    (fun k => (LocalP.cell _ _ (by simp)).and (LocalP.heap _ (by simp; omega)))
    ⟨hO5.alloc _, hB5.alloc _, grown_trans hg5 (World.grownBy_alloc _ _ _)⟩
    ⟨(Boxed.new w5 121 (.pointer (some ⟨w.heap.size, 0, none⟩))).cell, heap_alloc_keep hI5 _⟩
    ?assign ?body ?done ?stop
  case assign =>
    intro l k W K hk hK
    dsimp only [wordEnc]
    gi_wp2
    exact hK
  case body =>
    rintro l k W hk ⟨h0, h1, h2⟩ hN
    have c0 := h0.cell
    have hwb := x.word_bd hx hsz k
    have hseg : Seg W g i 64 (fun j => over z i 64 (x.stage k) (i + j)) := by have := h1.seg.sub i 64 (by omega); rwa [Nat.zero_add] at this
    have hsoft := h1.soft i 64
    have hwb0 := hwb.1
    gi_wp2_with (refine ⟨trivial, ?_⟩; gi_at_call 70; refine (CallsIn.inRound l (callsIn_wide.2 (put32_yes g i 64 _ _ _ _ _ (by omega) (by omega) (by omega) hwb0 (by exact hseg) (by exact hsoft)))).mono ?_; rintro e W1 ⟨rfl, hp⟩)
    rw [show i + (4 + 4 * (k : Int)).toNat = i + (4 + 4 * k) by omega] at hp
    refine ⟨hp.only.keeps (hseg 0 (by omega)), ⟨(hp.only.block _ (by omega)).trans h0, (h1.puts hp).congr (fun j _ => x.stage_next z i k hk j), grown_trans h2 (grown_only hp.only)⟩, (hp.only.cell (p := ⟨w5.heap.size, 0, none⟩) (by simp; omega)).trans hN.1, (hp.only.block _ (by omega)).trans hN.2⟩
  case done =>
    rintro D W hD ⟨h0, h1, h2⟩ hK
    go_wp2_with fail
    refine bodyPostM_done (D := D) hK (results_tmp rfl _ _ _) ⟨rfl, ?_, ?_⟩
    · have : Blk (W.putObj D (.deferred none)) g T 256 (over z i 64 (x.stage 14)) := (World.putObj_heap_other (by simp at hD; omega)).trans h1
      refine this.congr (fun j _ => ?_)
      rw [Int.toNat_natCast]
      by_cases hj : i ≤ j ∧ j < i + 64
      · rw [over_in _ _ _ _ _ hj, over_in _ _ _ _ _ hj, x.stage_all]
      · rw [over_out _ _ _ _ _ (by omega), over_out _ _ _ _ _ (by omega)]
    · exact ⟨h2.os, h2.tape, h2.output, by simp [World.putObj]; exact h2.size, fun j hj hne => (World.putObj_heap_other (by simp at hD; omega)).trans (h2.block j hj hne)⟩
  case stop =>
    rintro D c k W hD hk h hK
    exact h.elim
end Go.Proofs.YtopakpmepioomaaDoor
