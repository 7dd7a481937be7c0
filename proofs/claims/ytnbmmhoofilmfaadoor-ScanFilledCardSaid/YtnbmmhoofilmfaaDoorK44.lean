/- Texts of this claim, merged by a program (a claim may have 60 files): WScF. -/
import Derived.Test.YtnbmmhoofilmfaaDoorK05
import Derived.Test.YtnbmmhoofilmfaaDoorK42
import Derived.Test.YtnbmmhoofilmfaaDoorK43
import Derived.Test.YtnbmmhoofilmfaaDoorK38
/- The walk of ScanFilled. -/
namespace Go.Proofs.YtnbmmhoofilmfaaDoor
open Go.RowKit
set_option linter.unusedVariables false

def rowL (f : Int) (_ : Nat) : List Value := [.int .i64 0, .int .u8 f, .bool false]
theorem run_row1 (f : Int) (w : World) : (Instr.buildSlice 39 1 #[(0, .agg #[.int .i64 0, .int .u8 f, .bool false])]).run Tryd.prog w = .ok (.slice (some ⟨w.heap.size, 0, none⟩) 1 1) (w.alloc (.cells #[.int .i64 0, .int .u8 f, .bool false] 63)) := by kernel_rfl
theorem info_row3 : (Tryd.prog.info? 63).map (fun i => (i.zero, i.size, i.bytes)) = some (some (.agg #[.int .i64 0, .int .u8 0, .bool false]), 3, 16) := by kernel_rfl
theorem info_rowP : ∃ i, Tryd.prog.info? 63 = some i ∧ i.zero = some (.agg #[.int .i64 0, .int .u8 0, .bool false]) ∧ i.size = 3 ∧ i.bytes = 16 := by
  obtain ⟨i, hi, hz⟩ := Option.map_eq_some_iff.1 info_row3
  injection hz with h1 h2
  injection h2 with h2 h3
  exact ⟨i, hi, h1, h2, h3⟩
theorem info_journal (G S I J s t : Int) (oa : Option Addr) (on oc : Nat) : (Tryd.prog.info? 41).map (·.size) = some (jcells G S I J s t oa on oc).size := by kernel_rfl
theorem one_journal (G S I J s t : Int) (oa : Option Addr) (on oc : Nat) : (jcells G S I J s t oa on oc).all (·.oneCell') = true := by simp [jcells, Value.oneCell']
theorem zero_journal (W : World) : (zeroValue 41).run Tryd.prog W = .ok (.agg (jcells 0 0 0 0 0 0 none 0 0)) W := by kernel_rfl
/-- memory while the blocks are told: the geometry, the head, the journal (p), its row -/
structure WF (w : World) (G S I J s t f : Int) (p k : Nat) (a : Option Addr) (c : Nat) (W : World) : Prop where
  g : At W w.heap.size 23 (gcells G S I J)
  h : At W (w.heap.size + 1) 36 #[.int .u32 s, .int .i64 t]
  x : At W p 41 (jcells G S I J s t a k c)
  r : RMine W (p + 1) 63 3 (.slice a k c) k (rowL f)
  ta : Tab W
  bel : Below w.heap.size w W

section
variable {w : World} {G S I J s t f : Int} {p k : Nat} {a : Option Addr} {c : Nat} {W W' : World}
theorem WF.below (h : WF w G S I J s t f p k a c W) (hb : Below W.heap.size W W') : WF w G S I J s t f p k a c W' :=
  ⟨h.g.below hb h.g.lt, h.h.below hb h.h.lt, h.x.below hb h.x.lt, RMine.below h.r hb, h.ta.below hb (Nat.le_refl _), h.bel.trans (hb.mono h.bel.size)⟩
theorem WF.only {b : Nat} (h : WF w G S I J s t f p k (some ⟨b, 0, none⟩) c W) {x : Nat} (ho : Only x W W') (hTl : 0 < w.heap.size) (hp : w.heap.size + 1 < p) (hx : p < x) (hb : b ≠ x) : WF w G S I J s t f p k (some ⟨b, 0, none⟩) c W' :=
  ⟨h.g.only ho (by omega), h.h.only ho (by omega), h.x.only ho (by omega), own_only h.r ho (fun e => by simp [Value.ownBlock] at e; omega), h.ta.only ho (by omega), h.bel.trans (ho.below (by omega))⟩
end
/-- what the slots of region 8 hold -/
def VF (G S I J s t f : Int) (b c B : Nat) (E hS hT nx : Int) (l : Nat → Bool) (i : Nat) (v : Value) (W : World) : Prop :=
  if i = 0 then v = .agg (jcells G S I J s t (some ⟨b, 0, none⟩) 255 c)
  else if i = 1 then ∃ q N : Nat, (N : Int) = nBl G S I J ∧ v = .slice (some ⟨q, 0, none⟩) N N ∧ RArr W q 32 256 N (bkF (imF f J.toNat s t))
  else if i = 2 then v = gval G S I J
  else if i = 3 ∨ i = 4 then ∃ a k, v = .tuple #[.agg #[.int .u32 hS, .int .i64 hT], .slice a 0 k, .int .u32 nx, .int .i64 E]
  else if i = 5 then v = .agg #[.int .u32 hS, .int .i64 hT]
  else if i = 6 ∨ i = 11 then ∃ a k, v = .slice a 0 k
  else if i = 7 ∨ i = 12 then v = .int .u32 nx
  else if i = 8 ∨ i = 13 then v = .int .i64 E
  else if i = 9 then ∃ x, v = .pointer (some ⟨x, 0, none⟩) ∧ B ≤ x ∧ (l 10 = false → At W x 36 #[.int .u32 0, .int .i64 0]) ∧ (l 10 = true → At W x 36 #[.int .u32 hS, .int .i64 hT])
  else True
section
variable {G S I J s t f : Int} {b c B : Nat} {E hS hT nx : Int} {l l' : Nat → Bool} {i : Nat} {v : Value} {W W' : World}
theorem VF.below (h : VF G S I J s t f b c B E hS hT nx l i v W) (hl : l' 10 = l 10) (hb : Below W.heap.size W W') : VF G S I J s t f b c B E hS hT nx l' i v W' := by
  unfold VF at h ⊢
  rw [hl]
  by_cases h1 : i = 1
  · subst h1
    obtain ⟨q, N, e1, e2, h⟩ := h
    exact ⟨q, N, e1, e2, h.below hb⟩
  by_cases h9 : i = 9
  · subst h9
    obtain ⟨x, e1, e2, h3, h4⟩ := h
    exact ⟨x, e1, e2, fun e => (h3 e).below hb (h3 e).lt, fun e => (h4 e).below hb (h4 e).lt⟩
  rw [if_neg h1, if_neg h9] at h ⊢
  exact h
theorem VF.store (h : VF G S I J s t f b c B E hS hT nx l i v W) (h9 : i ≠ 9) {x : Nat} {cs : Array Value} (hA : At W x 36 cs) (ho : Only x W W') : VF G S I J s t f b c B E hS hT nx l' i v W' := by
  unfold VF at h ⊢
  by_cases h1 : i = 1
  · subst h1
    obtain ⟨q, N, e1, e2, h⟩ := h
    refine ⟨q, N, e1, e2, h.only ho fun e => ?_⟩
    subst e
    obtain ⟨ds, hd, _⟩ := h.blk
    have := hd.symm.trans hA
    simp at this
  rw [if_neg h1, if_neg h9] at h ⊢
  exact h
end
theorem r_call1 {P : Program} {W : World} {o : Oper} {a : Act} (f : FuncId) (x : Operand) (tys : Array TypeId) (u : Value) (ho : o.op = .call { callee := .value (.func f), args := #[x], argTypes := tys }) (hx : a.eval x = u)
    (hr : ((do let d ← Deferred.ofValue (a.eval (.func f)) #[u]; invoke d.target d.args) : Sem Next).run P W = .ok (.enter f #[u]) W) : (execOp a.eval o).run P W = .ok (.enter f #[u]) W := by
  rw [← hr]
  unfold execOp
  rw [ho]
  simp only [resolve]
  simp [hx]
theorem nBl_le (G S I J : Int) : nBl G S I J ≤ 2048 := by
  unfold nBl
  cases hm : mayG G S I J with
  | false => rw [if_neg (by decide)]; decide
  | true =>
    obtain ⟨_, _, _, _, _, _, _, _, _, _, h⟩ := (mayG_iff G S I J).1 hm
    rw [if_pos rfl]; exact h
theorem imF_byt {f : Int} (hf : 0 ≤ f ∧ f < 256) (j : Nat) (s t : Int) (b : Nat) : Byt (imF f j s t b) := by
  unfold imF imI
  split
  · exact headZ_byt18 s t
  · split
    · exact rowB_byt hf false
    · exact zero_byt18
theorem vm_all {L : List Oper} {V : (Nat → Bool) → Nat → Value → World → Prop} {S : (Nat → Bool) → World → Prop} {a0 a : Act} {W : World} (h : Vm.I L V S a0 (fun _ => true) a W) (ds : List Nat) (hd : ∀ i d, Vl.dst L i = some d → d ∈ ds) : a = ds.foldl (fun x d => x.put (some d) (a.tmps.getD d undef)) a0 := by
  obtain ⟨h1, h2, h3⟩ := Vl.foldl_put a ds a0
  generalize (ds.foldl (fun x d => x.put (some d) (a.tmps.getD d undef)) a0) = y at h1 h2 h3
  have hs : a.tmps = y.tmps := by
    refine Array.ext (h.size.trans h2.symm) fun k hk1 hk2 => ?_
    have e : a.tmps.getD k undef = y.tmps.getD k undef := by
      rw [h3 k (by rw [← h.size]; exact hk1)]
      by_cases hm : k ∈ ds
      · rw [if_pos hm]
      · rw [if_neg hm]
        exact h.other k fun i _ e => hm (hd i k e)
    rw [Array.getD_eq_getD_getElem?, Array.getD_eq_getD_getElem?, Array.getElem?_eq_getElem hk1, Array.getElem?_eq_getElem hk2] at e
    exact e
  have hdf : a.defers = y.defers := h.defers.trans h1.symm
  cases a
  cases y
  simp only at hs hdf
  rw [hs, hdf]
theorem run_eql_headF (s t s' t' : Int) (w : World) : (binOp .eql 36 (.agg #[.int .u32 s, .int .i64 t]) (.agg #[.int .u32 s', .int .i64 t'])).run Tryd.prog w = .ok (.bool (s == s' && t == t')) w := by
  have hS : Tryd.prog.underlying 36 = some (.struct (Tryd.prog.fieldsOf 36)) := by kernel_rfl
  have hp : Tryd.prog.stoodInHeld 36 = false := by kernel_rfl
  rw [run_eql_struct, show (10000 : Nat) = 9999 + 1 from rfl, run_equalIn_agg w 9999 _ _ _ hS hp]
  simp only [Program.fieldsOf, Tryd.underlying36]
  clear hS hp
  go_simp
  by_cases h1 : s = s' <;> by_cases h2 : t = t' <;> simp [h1, h2]
theorem run_alloc_headF (W : World) : (Instr.alloc 36 true (.tuple #[])).run Tryd.prog W = .ok (.pointer (some ⟨W.heap.size, 0, none⟩)) (W.alloc (.cells #[.int .u32 0, .int .i64 0] 36)) := by kernel_rfl

set_option maxRecDepth 100000 in
set_option maxHeartbeats 8000000 in
theorem scanFilled_walk (G S I J s t f : Int) (hs : 0 ≤ s ∧ s < 4294967296) (ht : -9223372036854775808 ≤ t ∧ t ≤ 9223372036854775807) (hf : 0 ≤ f ∧ f < 256) (w : World) (hT : Tab w) :
    Calls Tryd.prog 5 #[gval G S I J, .agg #[.int .u32 s, .int .i64 t], .int .u8 f] w fun e w' => e = .returned (.bool true) ∧ Below w.heap.size w w' := by
  have hTl := hT.lt
  have hal := zero_journal
  have hal2 := zero_head
  obtain ⟨W0, hW0⟩ : ∃ W0, W0 = (w.alloc (.cells (gcells G S I J) 23)).alloc (.cells #[.int .u32 s, .int .i64 t] 36) := ⟨_, rfl⟩
  have G0 : At W0 w.heap.size 23 (gcells G S I J) := by rw [hW0]; exact (At.new w _ _).alloc _
  have H0 : At W0 (w.heap.size + 1) 36 #[.int .u32 s, .int .i64 t] := by
    rw [hW0]
    have := At.new (w.alloc (.cells (gcells G S I J) 23)) 36 #[.int .u32 s, .int .i64 t]
    simp only [World.size_alloc] at this; exact this
  have T0 : Tab W0 := by rw [hW0]; exact (hT.alloc _).alloc _
  have B0 : Below w.heap.size w W0 := by rw [hW0]; exact ((Below.refl _ _).alloc (Nat.le_refl _) _).alloc (by simp) _
  have HG0 := Lib.hid G0
  have HH0 := Lib.hid H0
  have HT0 := Lib.hid T0
  have HB0 := Lib.hid B0
  have HW0 := Lib.hid hW0
  clear G0 H0 T0 B0 hW0 hT
  go_enter Tryd.func5, Tryd.ntmps5
  go_wp2_with fail
  rw [← HW0.out]
  refine (awake18 W0 HT0.out).mono ?_
  rintro e w1 ⟨rfl, hb1⟩
  have g1 := HG0.out.below hb1 HG0.out.lt
  have h1 := HH0.out.below hb1 HH0.out.lt
  have T1 := Lib.hid (HT0.out.below hb1 (Nat.le_refl _))
  have B1 := Lib.hid (HB0.out.trans (hb1.mono HB0.out.size))
  clear HG0 HH0 HT0 HB0 HW0 hb1
  go_wp2_with (first | (refine wp_loadAtG rfl 23 (.tmp 3) rfl _ _ _ rfl g1 Tryd.underlying23 rfl (by kernel_rfl) ?_) | (refine wp_loadAtG rfl 36 (.tmp 4) rfl _ _ _ rfl h1 Tryd.underlying36 rfl (by kernel_rfl) ?_))
  obtain ⟨p, hp⟩ : ∃ p, p = w1.heap.size := ⟨_, rfl⟩
  have hx1 := At.new w1 41 (jcells G S I J s t none 0 0)
  have hal1 : Below w1.heap.size w1 (w1.alloc (.cells (jcells G S I J s t none 0 0) 41)) := (Below.refl _ _).alloc (Nat.le_refl _) _
  have hgp : w.heap.size + 1 < p := by rw [hp]; exact h1.lt
  have ST0 : Hid (WF w G S I J s t f p 0 none 0 (w1.alloc (.cells (jcells G S I J s t none 0 0) 41))) :=
    ⟨g1.below hal1 g1.lt, h1.below hal1 h1.lt, by rw [hp]; exact hx1, RMine.nil _ _ _ _ _, T1.out.below hal1 (Nat.le_refl _), B1.out.trans (hal1.mono B1.out.size)⟩
  rw [← hp]
  have HP := Lib.hid hgp
  clear hx1 hal1 g1 h1 T1 B1 hp hgp
  go_loopw [8] (fun v wr => ∃ (k : Nat) (a : Option Addr) (c : Nat), v = .int .i64 (k : Int) ∧ k ≤ 255 ∧ WF w G S I J s t f p k a c wr) (fun v _ => 255 - (intOf v).toNat)
  case atStart => exact ⟨0, none, 0, rfl, by decide, ST0.out⟩
  case round =>
    clear ST0
    obtain ⟨k, a, c, rfl, hk, st⟩ := hrel
    have k0 : (0 : Int) ≤ (k : Int) := by omega
    have k9 : (k : Int) ≤ 255 := by omega
    by_cases hlt : k < 255
    · have l1 : (k : Int) < 255 := by omega
      have c8 : wr.cell? ⟨p, 8, none⟩ = some (.slice a k c) := st.x.cell (i := 8) rfl
      have hbs := run_row1 f
      have hown2 : World.ownsRow (wr.alloc (.cells #[.int .i64 0, .int .u8 f, .bool false] 63)) (p + 1) 63 3 (.slice a k c) k (Cs (rowL f) k) := World.ownsRow.alloc st.r _
      have hnews : ∀ (i : Nat) (u : Value), ([.int .i64 0, .int .u8 f, .bool false] : List Value)[i]? = some u → (wr.alloc (.cells #[.int .i64 0, .int .u8 f, .bool false] 63)).cell? ((⟨wr.heap.size, 0, none⟩ : Addr).add i) = some u := fun i u hu => by
        have := cell_of_heap (heap_alloc_new wr (.cells #[.int .i64 0, .int .u8 f, .bool false] 63)) (i := i) (v := u) (by simpa using hu)
        rw [show (⟨wr.heap.size, 0, none⟩ : Addr).add i = ⟨wr.heap.size, i, none⟩ from by unfold Addr.add; split <;> simp_all]
        exact this
      have h1c : ∀ u ∈ ([.int .i64 0, .int .u8 f, .bool false] : List Value), u.oneCell' = true := fun u hu => by
        simp at hu
        rcases hu with rfl | rfl | rfl <;> rfl
      obtain ⟨i0, hi0, hz0, hz1, hz2⟩ := info_rowP
      have hbase : p + 1 ≤ (wr.alloc (.cells #[.int .i64 0, .int .u8 f, .bool false] 63)).heap.size := by simp; have := st.x.lt; omega
      have hWW : Below wr.heap.size wr (wr.alloc (.cells #[.int .i64 0, .int .u8 f, .bool false] 63)) := (Below.refl _ _).alloc (Nat.le_refl _) _
      have hx2 := st.x.below hWW st.x.lt
      have hg2 := st.g.below hWW st.g.lt
      have hh2 := st.h.below hWW st.h.lt
      have ht2 := st.ta.below hWW (Nat.le_refl _)
      have hb2 := st.bel.trans (hWW.mono st.bel.size)
      have nex := at_own_neS hx2 hown2 (by decide)
      have neg_ := at_own_neS hg2 hown2 (by decide)
      have neh := at_own_neS hh2 hown2 (by decide)
      go_wp2_with (first | (refine wpList_append_own _ rfl (.tmp 23) (.tmp 26) 39 rfl (p + 1) 63 i0 (.agg #[.int .i64 0, .int .u8 0, .bool false]) 3 16 Tryd.underlying39 hi0 hz0 hz1 hz2 rfl (by decide) (.slice a k c) k _ rfl hown2 ⟨wr.heap.size, 0, none⟩ 1 1 [.int .i64 0, .int .u8 f, .bool false] rfl rfl hnews h1c (by unfold maxLen; omega) (by omega) hbase ?_))
      intro v' w3 ho3 hg3 _
      have hob : ∀ x, (Value.slice a k c).ownBlock = some x → p + 1 ≤ x := fun x e => by
        rcases hown2.2 with ⟨hv, _⟩ | ⟨g', cap', cur, hv, hbb, _⟩
        · rw [hv] at e; cases e
        · rw [hv] at e
          simp [Value.ownBlock] at e
          omega
      obtain ⟨ga, gc, rfl⟩ := own_form ho3
      have hgl := World.ownsRow.lt ho3 ga rfl
      have hpw := HP.out
      have hx3 := AtGrown hx2 hg3 nex
      have hg4 := AtGrown hg2 hg3 neg_
      have hh4 := AtGrown hh2 hg3 neh
      have ht4 := Tab.kept ht2 hg3 (fun e => by have := hob _ e; have : 0 < w.heap.size := hTl; omega)
      have hb4 := hb2.grown hg3 (by have := hb2.size; omega) (fun x e => by have := hob _ e; omega)
      have hr4 : RMine w3 (p + 1) 63 3 (.slice (some ⟨ga, 0, none⟩) (k + 1) gc) (k + 1) (rowL f) := ho3
      have c83 : w3.cell? ⟨p, 8, none⟩ = some (.slice a k c) := hx3.cell (i := 8) rfl
      have f83 : w3.frozen? ⟨p, 8, none⟩ = false := soft_of_heap hx3 8
      have STN : Hid (WF w G S I J s t f p (k + 1) (some ⟨ga, 0, none⟩) gc (w3.setCell ⟨p, 8, none⟩ (.slice (some ⟨ga, 0, none⟩) (k + 1) gc))) := by
        have ho : Only p w3 (w3.setCell ⟨p, 8, none⟩ (.slice (some ⟨ga, 0, none⟩) (k + 1) gc)) := Only.setCell w3 ⟨p, 8, none⟩ _
        exact ⟨hg4.only ho (by omega), hh4.only ho (by omega), hx3.setF 8 _, own_only hr4 ho (fun e => by simp [Value.ownBlock] at e; omega), ht4.only ho (by have : 0 < w.heap.size := hTl; omega), hb4.trans (ho.below (by omega))⟩
      clear st c8 hbs hown2 hnews h1c hbase hWW hx2 hg2 hh2 ht2 hb2 nex neg_ neh ho3 hg3 hob hgl hx3 hg4 hh4 ht4 hb4 hr4
      go_wp2_with fail
      go_roundw
      case rel => first | exact ⟨k + 1, some ⟨ga, 0, none⟩, gc, by first | rfl | go_num, by omega, STN.out⟩ | ((repeat apply Exists.intro); exact ⟨⟨k + 1, some ⟨ga, 0, none⟩, gc, by first | rfl | go_num, by omega, STN.out⟩, rfl⟩)
      case measure => simp [intOf]; omega
    · obtain rfl : k = 255 := by omega
      have hrw := st.r
      obtain ⟨b, c', hbc⟩ := own_form hrw
      injection hbc with hb1 hb2 hb3
      subst hb1 hb3
      have hrs := RMine.seg hrw (fun _ => rfl)
      have hbl := World.ownsRow.lt hrw b rfl
      have ST := Lib.hid st
      have HB := Lib.hid hbl
      have HS := Lib.hid hrs
      clear st hrw hbl hrs
      go_wp2_with fail
      have hal3 : ∀ (W : World) (o : Obj), Below W.heap.size W (W.alloc o) := fun W o => (Below.refl _ _).alloc (Nat.le_refl _) o
      obtain ⟨B, hB0⟩ : ∃ B, B = wr.heap.size := ⟨_, rfl⟩
      obtain ⟨E, hE⟩ : ∃ E, E = eF G S I J s t f (nBl G S I J).toNat := ⟨_, rfl⟩
      obtain ⟨hS, hSe⟩ : ∃ x, x = if E = 0 then s else 0 := ⟨_, rfl⟩
      obtain ⟨hT, hTe⟩ : ∃ x, x = if E = 0 then t else 0 := ⟨_, rfl⟩
      obtain ⟨nx, hxe⟩ : ∃ x, x = if E = 0 then s + 1 else 0 := ⟨_, rfl⟩
      have hpB : p < B := by rw [hB0]; exact ST.out.x.lt
      have hbB : b < B := by rw [hB0]; exact HB.out.2
      refine Vm.wp_region_val (VF G S I J s t f b c B E hS hT nx) (fun l W => WF w G S I J s t f p 255 (some ⟨b, 0, none⟩) c W ∧ B ≤ W.heap.size ∧ (l 10 = true → l 9 = true)) (by kernel_rfl) (by kernel_rfl) (fun l l' he i v W h => h.below (he 10 (by decide)).symm (Below.refl _ _))
        (fun l l' W he h => ⟨h.1, h.2.1, by rw [← he 9 (by decide), ← he 10 (by decide)]; exact h.2.2⟩) ⟨ST.out.below (Below.refl _ _).drew, by rw [hB0]; exact Nat.le_refl _, fun e => by cases e⟩ (fun hB => ⟨?_, ?_, ?_, ?_, ?_, ?_, ?_, ?_, ?_, ?_, ?_, ?_, ?_, ?_, trivial⟩) (by kernel_rfl) ?_
      · intro l a W hl hu h
        exact Vm.stepQ h hB rfl rfl rfl hl (.agg (jcells G S I J s t (some ⟨b, 0, none⟩) 255 c)) (Vl.r_ldrow 41 (.tmp 7) rfl p (jcells G S I J s t (some ⟨b, 0, none⟩) 255 c) _ (((h.old 7 (by kernel_rfl))).trans rfl) h.st.1.x Tryd.underlying41 rfl (by kernel_rfl)) (fun _ _ hv => hv.below rfl (Below.refl _ _)) rfl (fun s => s)
      · intro l a W hl hu h
        have h0 : a.tmps.getD 30 undef = .agg (jcells G S I J s t (some ⟨b, 0, none⟩) 255 c) := h.vals 0 30 (op_up hu 0 (by kernel_rfl)) rfl
        refine Vm.step h hB rfl rfl rfl hl (Vl.op_call 21 #[.agg (jcells G S I J s t (some ⟨b, 0, none⟩) 255 c)] (r_call1 21 (.tmp 30) _ _ rfl h0 (by kernel_rfl)) ?_)
        have hr8 := h.st.1.r
        refine (image18_any G S I J s t f hs ht hf b 0 c W (World.ownsRow.lt hr8 b rfl).2 (RMine.seg hr8 (fun _ => rfl))).mono ?_
        rintro e W' ⟨q, N, hN, rfl, hq, hA, hb⟩
        exact ⟨_, rfl, _, rfl, fun i d _ _ hv => hv.below rfl hb, ⟨q, N, hN, rfl, hA⟩, h.st.1.below hb, Nat.le_trans h.st.2.1 hb.size, h.st.2.2⟩
      · intro l a W hl hu h
        exact Vm.stepQ h hB rfl rfl rfl hl (gval G S I J) (Vl.r_ldrow 23 (.tmp 3) rfl w.heap.size (gcells G S I J) _ (((h.old 3 (by kernel_rfl))).trans rfl) h.st.1.g Tryd.underlying23 rfl (by kernel_rfl)) (fun _ _ hv => hv.below rfl (Below.refl _ _)) rfl (fun s => s)
      · intro l a W hl hu h
        obtain ⟨q, N, hN, hv1, hA⟩ := h.vals 1 31 (op_up hu 1 (by kernel_rfl)) rfl
        have h2 : a.tmps.getD 32 undef = gval G S I J := h.vals 2 32 (op_up hu 2 (by kernel_rfl)) rfl
        have hle := nBl_le G S I J
        have hEN : fdE G S I J N (imF f J.toNat s t) = E := by
          rw [hE, show N = (nBl G S I J).toNat by omega]; rfl
        refine Vm.step h hB rfl rfl rfl hl (Vl.op_call 19 #[.slice (some ⟨q, 0, none⟩) N N, gval G S I J] (Vl.r_call2 19 (.tmp 31) (.tmp 32) _ _ _ rfl hv1 h2 (by kernel_rfl)) ?_)
        refine (find18_any G S I J (some ⟨q, 0, none⟩) N N (imF f J.toNat s t) (fun i => imF_byt hf _ _ _ i) (Nat.le_refl _) (by omega) W h.st.1.ta (.inr ⟨q, 0, rfl, hA.seg⟩)).mono ?_
        rintro e W' ⟨hp, hb⟩
        rcases hp with ⟨hne, rfl⟩ | ⟨he, a1, k1, rfl, _⟩
        · rw [hEN] at hne ⊢
          rw [if_neg hne] at hSe hTe hxe
          exact ⟨.tuple #[.agg #[.int .u32 hS, .int .i64 hT], .slice none 0 0, .int .u32 nx, .int .i64 E], by rw [hSe, hTe, hxe], _, rfl, fun i d _ _ hv => hv.below rfl hb, ⟨_, _, rfl⟩, h.st.1.below hb, Nat.le_trans h.st.2.1 hb.size, h.st.2.2⟩
        · obtain ⟨q1, q2, q3, _⟩ := eF_zero (N := N) hf he
          rw [hEN] at he
          rw [if_pos he] at hSe hTe hxe
          exact ⟨.tuple #[.agg #[.int .u32 hS, .int .i64 hT], .slice a1 0 k1, .int .u32 nx, .int .i64 E], by rw [q1, q2, q3, hSe, hTe, hxe, he]; simp, _, rfl, fun i d _ _ hv => hv.below rfl hb, ⟨_, _, rfl⟩, h.st.1.below hb, Nat.le_trans h.st.2.1 hb.size, h.st.2.2⟩
      · intro l a W hl hu h
        obtain ⟨a1, k1, hv⟩ := h.vals 3 33 (op_up hu 3 (by kernel_rfl)) rfl
        exact Vm.stepQ h hB rfl rfl rfl hl (.tuple #[.agg #[.int .u32 hS, .int .i64 hT], .slice a1 0 k1, .int .u32 nx, .int .i64 E]) (Vl.r_move (.tmp 33) rfl hv) (fun _ _ hv => hv.below rfl (Below.refl _ _)) ⟨a1, k1, rfl⟩ (fun s => s)
      · intro l a W hl hu h
        obtain ⟨a1, k1, hv⟩ := h.vals 4 29 (op_up hu 4 (by kernel_rfl)) rfl
        exact Vm.stepQ h hB rfl rfl rfl hl (.agg #[.int .u32 hS, .int .i64 hT]) (Vl.r_extract (.tmp 29) 0 #[.agg #[.int .u32 hS, .int .i64 hT], .slice a1 0 k1, .int .u32 nx, .int .i64 E] rfl hv rfl) (fun _ _ hv => hv.below rfl (Below.refl _ _)) rfl (fun s => s)
      · intro l a W hl hu h
        obtain ⟨a1, k1, hv⟩ := h.vals 4 29 (op_up hu 4 (by kernel_rfl)) rfl
        exact Vm.stepQ h hB rfl rfl rfl hl (.slice a1 0 k1) (Vl.r_extract (.tmp 29) 1 #[.agg #[.int .u32 hS, .int .i64 hT], .slice a1 0 k1, .int .u32 nx, .int .i64 E] rfl hv rfl) (fun _ _ hv => hv.below rfl (Below.refl _ _)) ⟨a1, k1, rfl⟩ (fun s => s)
      · intro l a W hl hu h
        obtain ⟨a1, k1, hv⟩ := h.vals 4 29 (op_up hu 4 (by kernel_rfl)) rfl
        exact Vm.stepQ h hB rfl rfl rfl hl (.int .u32 nx) (Vl.r_extract (.tmp 29) 2 #[.agg #[.int .u32 hS, .int .i64 hT], .slice a1 0 k1, .int .u32 nx, .int .i64 E] rfl hv rfl) (fun _ _ hv => hv.below rfl (Below.refl _ _)) rfl (fun s => s)
      · intro l a W hl hu h
        obtain ⟨a1, k1, hv⟩ := h.vals 4 29 (op_up hu 4 (by kernel_rfl)) rfl
        exact Vm.stepQ h hB rfl rfl rfl hl (.int .i64 E) (Vl.r_extract (.tmp 29) 3 #[.agg #[.int .u32 hS, .int .i64 hT], .slice a1 0 k1, .int .u32 nx, .int .i64 E] rfl hv rfl) (fun _ _ hv => hv.below rfl (Below.refl _ _)) rfl (fun s => s)
      · intro l a W hl hu h
        have h10 : l 10 = false := by
          cases e : l 10 with
          | false => rfl
          | true => have := h.st.2.2 e; rw [hl] at this; cases this
        exact Vm.step h hB rfl rfl rfl hl (op_val (Vl.r_alloc 36 rfl (run_alloc_headF W)) ⟨_, rfl, fun i d _ _ hv => hv.below rfl (hal3 W _), ⟨_, rfl, h.st.2.1, fun _ => At.new W _ _, fun e => by have e : l 10 = true := e; rw [h10] at e; cases e⟩, ⟨h.st.1.below (hal3 W _), Nat.le_trans h.st.2.1 (hal3 W _).size, fun _ => rfl⟩⟩)
      · intro l a W hl hu h
        obtain ⟨x, hv9, hxB, h0, _⟩ := h.vals 9 9 (op_up hu 9 (by kernel_rfl)) rfl
        have h4 : a.tmps.getD 34 undef = .agg #[.int .u32 hS, .int .i64 hT] := h.vals 5 34 (op_up hu 5 (by kernel_rfl)) rfl
        have hA0 := h0 hl
        refine Vm.step h hB rfl rfl rfl hl (op_strow 36 (.tmp 9) (.tmp 34) rfl x #[.int .u32 hS, .int .i64 hT] _ hv9 h4 hA0 (info_head hS hT) rfl (one_head _ _) ?_)
        intro W' hA' ho
        refine ⟨_, rfl, fun i d _ hd hv => ?_, trivial, h.st.1.only ho hTl HP.out (by omega) (by omega), by have := ho.size; have := h.st.2.1; omega, fun _ => op_up hu 9 (by kernel_rfl)⟩
        by_cases e9 : i = 9
        · subst e9
          have hd : some 9 = some d := hd
          injection hd with hd
          subst hd
          exact ⟨x, hv9, hxB, (fun e => by have e : true = false := e; cases e), fun _ => hA'⟩
        · exact hv.store e9 hA0 ho
      · intro l a W hl hu h
        obtain ⟨a1, k1, hv⟩ := h.vals 6 35 (op_up hu 6 (by kernel_rfl)) rfl
        exact Vm.stepQ h hB rfl rfl rfl hl (.slice a1 0 k1) (Vl.r_assign (.tmp 35) rfl hv) (fun _ _ hv => hv.below rfl (Below.refl _ _)) ⟨a1, k1, rfl⟩ (fun s => s)
      · intro l a W hl hu h
        exact Vm.stepQ h hB rfl rfl rfl hl (.int .u32 nx) (Vl.r_assign (.tmp 36) rfl (h.vals 7 36 (op_up hu 7 (by kernel_rfl)) rfl)) (fun _ _ hv => hv.below rfl (Below.refl _ _)) rfl (fun s => s)
      · intro l a W hl hu h
        exact Vm.stepQ h hB rfl rfl rfl hl (.int .i64 E) (Vl.r_assign (.tmp 37) rfl (h.vals 8 37 (op_up hu 8 (by kernel_rfl)) rfl)) (fun _ _ hv => hv.below rfl (Below.refl _ _)) rfl (fun s => s)
      intro a' w2 h
      have hall := vm_all h [30, 31, 32, 33, 29, 34, 35, 36, 37, 9, 10, 11, 12] (Vl.ds_in (by kernel_rfl))
      have e30 : a'.tmps.getD 30 undef = .agg (jcells G S I J s t (some ⟨b, 0, none⟩) 255 c) := h.vals 0 30 rfl rfl
      obtain ⟨q, N, hN, e31, _⟩ := h.vals 1 31 rfl rfl
      have e32 : a'.tmps.getD 32 undef = gval G S I J := h.vals 2 32 rfl rfl
      obtain ⟨a3, k3, e33⟩ := h.vals 3 33 rfl rfl
      obtain ⟨a4, k4, e29⟩ := h.vals 4 29 rfl rfl
      have e34 : a'.tmps.getD 34 undef = .agg #[.int .u32 hS, .int .i64 hT] := h.vals 5 34 rfl rfl
      obtain ⟨a6, k6, e35⟩ := h.vals 6 35 rfl rfl
      have e36 : a'.tmps.getD 36 undef = .int .u32 nx := h.vals 7 36 rfl rfl
      have e37 : a'.tmps.getD 37 undef = .int .i64 E := h.vals 8 37 rfl rfl
      obtain ⟨x9, e9, hxB, _, hA9⟩ := h.vals 9 9 rfl rfl
      obtain ⟨a11, k11, e10⟩ := h.vals 11 10 rfl rfl
      have e11 : a'.tmps.getD 11 undef = .int .u32 nx := h.vals 12 11 rfl rfl
      have e12 : a'.tmps.getD 12 undef = .int .i64 E := h.vals 13 12 rfl rfl
      have hA := hA9 rfl
      have ST2 := Lib.hid h.st.1
      clear h
      rw [List.foldl_cons, List.foldl_cons, List.foldl_cons, List.foldl_cons, List.foldl_cons, List.foldl_cons, List.foldl_cons, List.foldl_cons, List.foldl_cons, List.foldl_cons, List.foldl_cons, List.foldl_cons, List.foldl_cons, List.foldl_nil] at hall
      rw [e30, e31, e32, e33, e29, e34, e35, e36, e37, e9, e10, e11, e12] at hall
      clear e30 e31 e32 e33 e29 e34 e35 e36 e37 e9 e10 e11 e12
      simp only [Act.put, List.setIfInBounds_toArray, List.set_cons_succ, List.set_cons_zero] at hall
      subst hall
      clear hal3 HS HB ST hA9
      have hh2 := ST2.out.h
      have hd0 : w2.cell? ⟨w.heap.size + 1, 0, none⟩ = some (.int .u32 s) := hh2.cell (i := 0) rfl
      by_cases hE0 : E = 0
      · have hz := eF_zero (N := (nBl G S I J).toNat) hf (hE.symm.trans hE0)
        have hs1 := hz.2.2.2
        rw [if_pos hE0] at hSe hTe hxe
        have hwr : IntKind.u32.wrap (s + 1) = s + 1 := IntWalk.u32_in _ (by omega)
        have hEQ := fun W => run_eql_headF s t s t W
        rw [hSe, hTe] at hA
        rw [hSe, hTe, hxe, hE0]
        clear hz hE hE0 hSe hTe hxe
        go_wp2_with (first | (refine wp_loadAtG rfl 36 (.tmp 9) rfl _ _ _ rfl hA Tryd.underlying36 rfl (by kernel_rfl) ?_) | (refine wp_loadAtG rfl 36 (.tmp 4) rfl _ _ _ rfl hh2 Tryd.underlying36 rfl (by kernel_rfl) ?_))
        go_ret
        exact ⟨rfl, ST2.out.bel⟩
      · clear hSe hTe hxe hE hA hh2 hd0
        go_wp2_with fail
        go_ret
        exact ⟨rfl, ST2.out.bel⟩
set_option maxRecDepth 100000 in
theorem open_head {W : World} {base : Nat} {v : Value} (h : Value.okWide Tryd.prog W .any base 36 v) : ∃ s t : Int, v = .agg #[.int .u32 s, .int .i64 t] ∧ (0 ≤ s ∧ s < 4294967296) ∧ (-9223372036854775808 ≤ t ∧ t ≤ 9223372036854775807) := by
  obtain ⟨z, rfl, hz, h0⟩ := open_row [.u32, .i64] h (by kernel_rfl) (by kernel_rfl) (by kernel_rfl)
  have e0 := kHas (hz 0 (by decide))
  have e1 := kHas (hz 1 (by decide))
  simp [IntKind.min, IntKind.max, IntKind.signed, IntKind.bits] at e0 e1
  exact ⟨z 0, z 1, rfl, by omega, by omega⟩
end Go.Proofs.YtnbmmhoofilmfaaDoor
