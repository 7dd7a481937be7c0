/- 'c, d := b, b' for blocks: two new blocks with the same bytes, in whatever order they are made. -/
import Derived.Test.YtmghpmbjimdegaaInv
namespace Go.Proofs.Ytmghpmbjimdegaa
open Go.RowKit
set_option linter.unusedVariables false

theorem wpOp_of {P : Program} {ops : Array Oper} {Q : Exit → Act → World → Prop} {i : Nat} {o : Oper} {K : Act → World → Prop} {a : Act} {w : World} (hi : ops[i]? = some o) (hg : o.guard = none) (h : o.wp P a w K Q) : wpOp P ops Q i K a w := by
  unfold wpOp
  rw [hi]
  have : Region.wanted o (yielded ops a.tmps) = true := by unfold Region.wanted; rw [hg]
  simp only [this, if_true]
  exact .inl h
theorem put_size (a : Act) (d : Nat) (v : Value) : (a.put (some d) v).tmps.size = a.tmps.size := by simp [Act.put]
theorem put_same (a : Act) (d : Nat) (v : Value) (h : d < a.tmps.size) : (a.put (some d) v).tmps.getD d undef = v := by simp [Act.put, Array.getD_eq_getD_getElem?, h]
theorem put_other (a : Act) (d s : Nat) (v : Value) (h : s ≠ d) : (a.put (some d) v).tmps.getD s undef = a.tmps.getD s undef := by
  simp only [Act.put, Array.getD_eq_getD_getElem?, Array.getElem?_setIfInBounds_ne (Ne.symm h)]
theorem wp_allocBlk {o : Oper} {a : Act} {w : World} {K : Act → World → Prop} {Q : Exit → Act → World → Prop} (ho : o.op = .alloc 23)
    (h : K (a.put o.dst (.pointer (some ⟨w.heap.size, 0, none⟩))) (w.alloc (.cells (Ks .u8 256 (fun _ => 0)).toArray 23))) : o.wp Try.prog a w K Q := by
  unfold Oper.wp execOp
  have hz := zero_block
  simp only [ho, Instr.alloc, Sem.run_bind, hz, Result.andThen_ok]
  exact h

/-- what holds on the way: v: which have come up (two reads, two blocks, two stores) -/
structure Two (a : Act) (w : World) (b : Nat) (z : Nat → Int) (d0 d1 d2 d3 : Nat) (l : Nat → Bool) (a' : Act) (w' : World) : Prop where
  defers : a'.defers = a.defers
  size : a'.tmps.size = a.tmps.size
  other : ∀ s, s ≠ d0 → s ≠ d1 → s ≠ d2 → s ≠ d3 → a'.tmps.getD s undef = a.tmps.getD s undef
  r0 : l 0 = true → a'.tmps.getD d0 undef = bval z
  r1 : l 1 = true → a'.tmps.getD d1 undef = bval z
  src : Blk w' b 23 256 z
  bel : Below w.heap.size w w'
  m2 : l 2 = true → ∃ g, a'.tmps.getD d2 undef = .pointer (some ⟨g, 0, none⟩) ∧ w.heap.size ≤ g ∧ Blk w' g 23 256 (if l 4 = true then z else fun _ => 0)
  m3 : l 3 = true → ∃ g, a'.tmps.getD d3 undef = .pointer (some ⟨g, 0, none⟩) ∧ w.heap.size ≤ g ∧ Blk w' g 23 256 (if l 5 = true then z else fun _ => 0)
  ne : l 2 = true → l 3 = true → a'.tmps.getD d2 undef ≠ a'.tmps.getD d3 undef
  w4 : l 4 = true → l 2 = true
  w5 : l 5 = true → l 3 = true

theorem wp_copy2 {id : Nat} {Q : Exit → Act → World → Prop} {a : Act} {w : World} (x d0 d1 d2 d3 : Nat) {e0 e1 e2 e3 e4 e5 : Array Edge} {t0 t1 t2 t3 t4 t5 : TypeId} {p0 p1 p2 p3 p4 p5 : String}
    (b : Nat) (z : Nat → Int) (hx : a.eval (.tmp x) = .pointer (some ⟨b, 0, none⟩)) (hB : Blk w b 23 256 z)
    (hne : [x, d0, d1, d2, d3].Nodup) (hsz : d0 < a.tmps.size ∧ d1 < a.tmps.size ∧ d2 < a.tmps.size ∧ d3 < a.tmps.size)
    (hd : downB .any #[⟨some d0, .load 23 (.tmp x), t0, p0, e0, none⟩, ⟨some d1, .load 23 (.tmp x), t1, p1, e1, none⟩, ⟨some d2, .alloc 23, t2, p2, e2, none⟩, ⟨some d3, .alloc 23, t3, p3, e3, none⟩, ⟨none, .store 23 (.tmp d2) (.tmp d0), t4, p4, e4, none⟩, ⟨none, .store 23 (.tmp d3) (.tmp d1), t5, p5, e5, none⟩] = true)
    (h4 : ∀ l, upB .any ⟨none, .store 23 (.tmp d2) (.tmp d0), t4, p4, e4, none⟩ l = true → l 0 = true ∧ l 2 = true) (h5 : ∀ l, upB .any ⟨none, .store 23 (.tmp d3) (.tmp d1), t5, p5, e5, none⟩ l = true → l 1 = true ∧ l 3 = true)
    (h : ∀ g k w', g ≠ k → w.heap.size ≤ g → w.heap.size ≤ k → Blk w' g 23 256 z → Blk w' k 23 256 z → Below w.heap.size w w' →
      Q .normal ((((a.put (some d0) (bval z)).put (some d1) (bval z)).put (some d2) (.pointer (some ⟨g, 0, none⟩))).put (some d3) (.pointer (some ⟨k, 0, none⟩))) w') :
    (Code.region id #[⟨some d0, .load 23 (.tmp x), t0, p0, e0, none⟩, ⟨some d1, .load 23 (.tmp x), t1, p1, e1, none⟩, ⟨some d2, .alloc 23, t2, p2, e2, none⟩, ⟨some d3, .alloc 23, t3, p3, e3, none⟩, ⟨none, .store 23 (.tmp d2) (.tmp d0), t4, p4, e4, none⟩, ⟨none, .store 23 (.tmp d3) (.tmp d1), t5, p5, e5, none⟩] true).wp Try.prog Q a w := by
  simp only [List.nodup_cons, List.mem_cons, List.not_mem_nil, or_false, not_or, List.nodup_nil, and_true, not_false_eq_true] at hne
  obtain ⟨⟨x0, x1, x2, x3⟩, ⟨n01, n02, n03⟩, ⟨n12, n13⟩, n23⟩ := hne
  obtain ⟨s0, s1, s2, s3⟩ := hsz
  have hb := hB.lt
  have hx' : a.tmps.getD x undef = .pointer (some ⟨b, 0, none⟩) := hx
  have xof : ∀ {l a' w'}, Two a w b z d0 d1 d2 d3 l a' w' → a'.eval (.tmp x) = .pointer (some ⟨b, 0, none⟩) := fun h => (h.other x x0 x1 x2 x3).trans hx'
  refine wp_region_inv (Two a w b z d0 d1 d2 d3) (by kernel_rfl) hd ?_ ?_ ⟨?_, ?_, ?_, ?_, ?_, ?_, trivial⟩ ?_
  · intro l l' a' w' he h
    have e0 := he 0 (by simp); have e1 := he 1 (by simp); have e2 := he 2 (by simp); have e3 := he 3 (by simp); have e4 := he 4 (by simp); have e5 := he 5 (by simp)
    exact ⟨h.defers, h.size, h.other, e0 ▸ h.r0, e1 ▸ h.r1, h.src, h.bel, e2 ▸ e4 ▸ h.m2, e3 ▸ e5 ▸ h.m3, e2 ▸ e3 ▸ h.ne, e4 ▸ e2 ▸ h.w4, e5 ▸ e3 ▸ h.w5⟩
  · exact ⟨rfl, rfl, fun _ _ _ _ _ => rfl, (fun h => by cases h), (fun h => by cases h), hB, ⟨rfl, rfl, rfl, Nat.le_refl _, fun _ _ => rfl⟩, (fun h => by cases h), (fun h => by cases h), (fun h => by cases h), (fun h => by cases h), (fun h => by cases h)⟩
  · intro l a' w' hl hu h
    refine wpOp_of rfl rfl (wp_load_row 23 (.tmp x) rfl b (xof h) 23 (Ks .u8 256 z).toArray (0, 0) _ h.src Try.underlying23 rfl (info_block' _) ?_)
    show Two a w b z d0 d1 d2 d3 (fun j => j == 0 || l j) (a'.put (some d0) (bval z)) w'
    refine ⟨h.defers, by rw [put_size]; exact h.size, fun s a0 a1 a2 a3 => by rw [put_other _ _ _ _ a0]; exact h.other s a0 a1 a2 a3, fun _ => put_same _ _ _ (by rw [h.size]; exact s0), fun hh => ?_, h.src, h.bel, fun hh => ?_, fun hh => ?_, fun hh hk => ?_, h.w4, h.w5⟩
    · rw [put_other _ _ _ _ (Ne.symm n01)]; exact h.r1 hh
    · rw [put_other _ _ _ _ (Ne.symm n02)]; exact h.m2 hh
    · rw [put_other _ _ _ _ (Ne.symm n03)]; exact h.m3 hh
    · rw [put_other _ _ _ _ (Ne.symm n02), put_other _ _ _ _ (Ne.symm n03)]; exact h.ne hh hk
  · intro l a' w' hl hu h
    refine wpOp_of rfl rfl (wp_load_row 23 (.tmp x) rfl b (xof h) 23 (Ks .u8 256 z).toArray (0, 0) _ h.src Try.underlying23 rfl (info_block' _) ?_)
    show Two a w b z d0 d1 d2 d3 (fun j => j == 1 || l j) (a'.put (some d1) (bval z)) w'
    refine ⟨h.defers, by rw [put_size]; exact h.size, fun s a0 a1 a2 a3 => by rw [put_other _ _ _ _ a1]; exact h.other s a0 a1 a2 a3, fun hh => ?_, fun _ => put_same _ _ _ (by rw [h.size]; exact s1), h.src, h.bel, fun hh => ?_, fun hh => ?_, fun hh hk => ?_, h.w4, h.w5⟩
    · rw [put_other _ _ _ _ n01]; exact h.r0 hh
    · rw [put_other _ _ _ _ (Ne.symm n12)]; exact h.m2 hh
    · rw [put_other _ _ _ _ (Ne.symm n13)]; exact h.m3 hh
    · rw [put_other _ _ _ _ (Ne.symm n12), put_other _ _ _ _ (Ne.symm n13)]; exact h.ne hh hk
  · intro l a' w' hl hu h
    refine wpOp_of rfl rfl (wp_allocBlk rfl ?_)
    have h4' : l 4 = false := by cases e : l 4 with | false => rfl | true => rw [h.w4 e] at hl; cases hl
    show Two a w b z d0 d1 d2 d3 (fun j => j == 2 || l j) (a'.put (some d2) (.pointer (some ⟨w'.heap.size, 0, none⟩))) _
    refine ⟨h.defers, by rw [put_size]; exact h.size, fun s a0 a1 a2 a3 => by rw [put_other _ _ _ _ a2]; exact h.other s a0 a1 a2 a3, fun hh => ?_, fun hh => ?_, h.src.alloc _, h.bel.alloc h.bel.size _, fun _ => ⟨w'.heap.size, put_same _ _ _ (by rw [h.size]; exact s2), h.bel.size, ?_⟩, fun hh => ?_, fun _ hk => ?_, fun _ => rfl, h.w5⟩
    · rw [put_other _ _ _ _ n02]; exact h.r0 hh
    · rw [put_other _ _ _ _ n12]; exact h.r1 hh
    · show Blk _ _ _ _ (if l 4 = true then z else fun _ => 0)
      rw [if_neg (by rw [h4']; exact Bool.false_ne_true)]
      exact Blk.new _ _ _ _
    · rw [put_other _ _ _ _ (Ne.symm n23)]
      obtain ⟨g, q1, q2, q3⟩ := h.m3 hh
      exact ⟨g, q1, q2, q3.alloc _⟩
    · rw [put_same _ _ _ (by rw [h.size]; exact s2), put_other _ _ _ _ (Ne.symm n23)]
      obtain ⟨g, q1, q2, q3⟩ := h.m3 hk
      rw [q1]
      have := q3.lt
      intro e
      injection e with e; injection e with e; injection e with e
      omega
  · intro l a' w' hl hu h
    refine wpOp_of rfl rfl (wp_allocBlk rfl ?_)
    have h5' : l 5 = false := by cases e : l 5 with | false => rfl | true => rw [h.w5 e] at hl; cases hl
    show Two a w b z d0 d1 d2 d3 (fun j => j == 3 || l j) (a'.put (some d3) (.pointer (some ⟨w'.heap.size, 0, none⟩))) _
    refine ⟨h.defers, by rw [put_size]; exact h.size, fun s a0 a1 a2 a3 => by rw [put_other _ _ _ _ a3]; exact h.other s a0 a1 a2 a3, fun hh => ?_, fun hh => ?_, h.src.alloc _, h.bel.alloc h.bel.size _, fun hh => ?_, fun _ => ⟨w'.heap.size, put_same _ _ _ (by rw [h.size]; exact s3), h.bel.size, ?_⟩, fun hk _ => ?_, h.w4, fun _ => rfl⟩
    · rw [put_other _ _ _ _ n03]; exact h.r0 hh
    · rw [put_other _ _ _ _ n13]; exact h.r1 hh
    · rw [put_other _ _ _ _ n23]
      obtain ⟨g, q1, q2, q3⟩ := h.m2 hh
      exact ⟨g, q1, q2, q3.alloc _⟩
    · show Blk _ _ _ _ (if l 5 = true then z else fun _ => 0)
      rw [if_neg (by rw [h5']; exact Bool.false_ne_true)]
      exact Blk.new _ _ _ _
    · rw [put_same _ _ _ (by rw [h.size]; exact s3), put_other _ _ _ _ n23]
      obtain ⟨g, q1, q2, q3⟩ := h.m2 hk
      rw [q1]
      have := q3.lt
      intro e
      injection e with e; injection e with e; injection e with e
      omega
  · intro l a' w' hl hu h
    obtain ⟨k0, k2⟩ := h4 l hu
    obtain ⟨g, q1, q2, q3⟩ := h.m2 k2
    have hgb : b ≠ g := by omega
    refine wpOp_of rfl rfl (wp_store_row 23 (.tmp d2) (.tmp d0) rfl g (Ks .u8 256 z).toArray q1 (h.r0 k0) 23 _ q3 (info_block' _) (by rw [Ks_size, Ks_size]) (Ks_one _ _ _) ?_)
    have ho := only_setRow w' g (Ks .u8 256 z).toArray q3 (by rw [Ks_size, Ks_size])
    show Two a w b z d0 d1 d2 d3 (fun j => j == 4 || l j) a' _
    refine ⟨h.defers, h.size, h.other, h.r0, h.r1, h.src.only ho hgb, h.bel.trans (ho.below q2), fun _ => ⟨g, q1, q2, ?_⟩, fun hh => ?_, h.ne, fun _ => k2, h.w5⟩
    · show Blk _ _ _ _ (if (4 == 4 || l 4) = true then z else fun _ => 0)
      simpa using q3.setRow z
    · have hh' : l 3 = true := hh
      obtain ⟨k, r1, r2, r3⟩ := h.m3 hh'
      refine ⟨k, r1, r2, r3.only ho ?_⟩
      intro e
      subst e
      exact h.ne k2 hh' (q1.trans r1.symm)
  · intro l a' w' hl hu h
    obtain ⟨k1, k3⟩ := h5 l hu
    obtain ⟨g, q1, q2, q3⟩ := h.m3 k3
    have hgb : b ≠ g := by omega
    refine wpOp_of rfl rfl (wp_store_row 23 (.tmp d3) (.tmp d1) rfl g (Ks .u8 256 z).toArray q1 (h.r1 k1) 23 _ q3 (info_block' _) (by rw [Ks_size, Ks_size]) (Ks_one _ _ _) ?_)
    have ho := only_setRow w' g (Ks .u8 256 z).toArray q3 (by rw [Ks_size, Ks_size])
    show Two a w b z d0 d1 d2 d3 (fun j => j == 5 || l j) a' _
    refine ⟨h.defers, h.size, h.other, h.r0, h.r1, h.src.only ho hgb, h.bel.trans (ho.below q2), fun hh => ?_, fun _ => ⟨g, q1, q2, ?_⟩, h.ne, h.w4, fun _ => k3⟩
    · have hh' : l 2 = true := hh
      obtain ⟨k, r1, r2, r3⟩ := h.m2 hh'
      refine ⟨k, r1, r2, r3.only ho ?_⟩
      intro e
      subst e
      exact h.ne hh' k3 (r1.trans q1.symm)
    · show Blk _ _ _ _ (if (5 == 5 || l 5) = true then z else fun _ => 0)
      simpa using q3.setRow z
  · intro a' w' hh
    obtain ⟨g, q1, q2, q3⟩ := hh.m2 rfl
    obtain ⟨k, r1, r2, r3⟩ := hh.m3 rfl
    have hgk : g ≠ k := fun e => by subst e; exact hh.ne rfl rfl (q1.trans r1.symm)
    have := h g k w' hgk q2 r2 (by simpa using q3) (by simpa using r3) hh.bel
    have e : a' = ((((a.put (some d0) (bval z)).put (some d1) (bval z)).put (some d2) (.pointer (some ⟨g, 0, none⟩))).put (some d3) (.pointer (some ⟨k, 0, none⟩))) := by
      obtain ⟨tm, df⟩ := a'
      have hdf := hh.defers
      have hsz := hh.size
      simp only at hdf hsz
      subst hdf
      have : tm = ((((a.put (some d0) (bval z)).put (some d1) (bval z)).put (some d2) (.pointer (some ⟨g, 0, none⟩))).put (some d3) (.pointer (some ⟨k, 0, none⟩))).tmps := by
        have getD_ext : ∀ (A B : Array Value), A.size = B.size → (∀ s, A.getD s undef = B.getD s undef) → A = B := by
          intro A B hs hg
          apply Array.ext hs
          intro i h1 h2
          have := hg i
          simpa [Array.getD_eq_getD_getElem?, h1, h2] using this
        refine getD_ext _ _ (by rw [put_size, put_size, put_size, put_size]; exact hsz) fun s => ?_
        by_cases c3 : s = d3
        · subst c3; rw [put_same _ _ _ (by rw [put_size, put_size, put_size]; exact s3)]; exact r1
        rw [put_other _ _ _ _ c3]
        by_cases c2 : s = d2
        · subst c2; rw [put_same _ _ _ (by rw [put_size, put_size]; exact s2)]; exact q1
        rw [put_other _ _ _ _ c2]
        by_cases c1 : s = d1
        · subst c1; rw [put_same _ _ _ (by rw [put_size]; exact s1)]; exact hh.r1 rfl
        rw [put_other _ _ _ _ c1]
        by_cases c0 : s = d0
        · subst c0; rw [put_same _ _ _ s0]; exact hh.r0 rfl
        rw [put_other _ _ _ _ c0]
        exact hh.other s c0 c1 c2 c3
      rw [this]
      rfl
    rw [e]
    exact this
end Go.Proofs.Ytmghpmbjimdegaa
