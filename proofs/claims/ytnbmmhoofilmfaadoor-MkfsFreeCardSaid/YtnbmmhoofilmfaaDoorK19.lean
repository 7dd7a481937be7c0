/- Texts of this claim, merged by a program (a claim may have 60 files): Jb2, MkD, Jb3, Chain, Jb4, Jb5, Jb6, Jb7. -/
import Derived.Test.YtnbmmhoofilmfaaDoorK06
import Derived.Test.YtnbmmhoofilmfaaDoorK18
import Derived.Test.YtnbmmhoofilmfaaDoorK09
import Derived.Test.YtnbmmhoofilmfaaDoorK07
import Derived.Laws.OwnMore
/- Contracts of jblock's heads, commits, kinds and escapes. -/
namespace Go.Proofs.YtnbmmhoofilmfaaDoor
open Go.RowKit
set_option linter.unusedVariables false

def headOk (s t : Int) : Bool := seqB s && decide (0 ≤ t ∧ t ≤ 255)
def headZ (s t : Int) : Nat → Int := if headOk s t then wz (jw 4 s t nz) else fun _ => 0
def commitOk (s n : Int) : Bool := seqB s && decide (1 ≤ n ∧ n ≤ 256)
def sumR (v : Int) : Nat → Int := fun j => if j = 0 then v else 0
def commitZ (s n v : Int) : Nat → Int := if commitOk s n then wz (jw 2 s n (sumR v)) else fun _ => 0
def errOf (b : Bool) (e : Int) : Int := if b then 0 else e
def kindB (z : Nat → Int) : Bool := wd z 0 == 1280199249 && (seqB (wd z 2) && decide (1 ≤ wd z 1 ∧ wd z 1 ≤ 4))
def kindOf (z : Nat → Int) : Int := if kindB z then wd z 1 else 0
def seqOf (z : Nat → Int) : Int := if kindB z then wd z 2 else 0
def escB (z : Nat → Int) : Bool := wd z 0 == 1280199249
def escZ (z : Nat → Int) : Nat → Int := if escB z then over z 0 4 (byteOf 0) else z
def unescZ (z : Nat → Int) : Nat → Int := over z 0 4 (byteOf 1280199249)
def headRd (z : Nat → Int) : Bool := kindOf z == 4 && (decide (wd z 3 ≤ 255) && allZ (fun j => wd z (4 + j)) 60)
def commitRd (z : Nat → Int) : Bool := kindOf z == 2 && (decide (1 ≤ wd z 3 ∧ wd z 3 ≤ 256) && allZ (fun j => wd z (5 + j)) 59)

set_option maxRecDepth 100000 in
set_option maxHeartbeats 1000000 in
theorem writeHead_any (s t : Int) (w : World) (hs : 0 ≤ s ∧ s < 4294967296) (ht : -9223372036854775808 ≤ t ∧ t ≤ 9223372036854775807) :
    Calls Tryd.prog 17 #[.agg #[.int .u32 s, .int .i64 t]] w fun e w' => e = .returned (.tuple #[bval (headZ s t), .int .i64 (errOf (headOk s t) 2)]) ∧ Below w.heap.size w w' := by
  obtain ⟨hs0, hs1⟩ := hs
  obtain ⟨ht0, ht1⟩ := ht
  have hal := zero_block
  obtain ⟨W, hW⟩ : ∃ W, W = (w.alloc (.cells #[.int .u32 s, .int .i64 t] 36)).alloc (.cells (Ks .u8 256 (fun _ => 0)).toArray 32) := ⟨_, rfl⟩
  have c0 : W.cell? ⟨w.heap.size, 0, none⟩ = some (.int .u32 s) := by rw [hW]; exact cell_of_heap (heap_alloc_keep (heap_alloc_new w _) _) rfl
  have c1 : W.cell? ⟨w.heap.size, 1, none⟩ = some (.int .i64 t) := by rw [hW]; exact cell_of_heap (heap_alloc_keep (heap_alloc_new w _) _) rfl
  have hR : Blk W (w.heap.size + 1) 32 256 (fun _ => 0) := by
    rw [hW]
    have := Blk.new (w.alloc (.cells #[.int .u32 s, .int .i64 t] 36)) 32 256 (fun _ => 0)
    simp only [World.size_alloc] at this
    exact this
  have hL : Below w.heap.size w W := by rw [hW]; exact ((Below.refl _ _).alloc (Nat.le_refl _) _).alloc (by simp) _
  have HW := Lib.hid hW
  have HC0 := Lib.hid c0
  have HC1 := Lib.hid c1
  clear hW c0 c1
  go_enter Tryd.func17, Tryd.ntmps17
  go_wp2_with fail
  rw [← HW.out]
  refine (maySeq_any s _).mono ?_
  rintro e w1 ⟨rfl, rfl⟩
  have c0 := HC0.out
  have c1 := HC1.out
  clear HC0 HC1 HW
  by_cases hq : seqB s = true
  rotate_left
  · rw [Bool.not_eq_true] at hq
    have HO : Hid (headOk s t = false) := by show _ = _; unfold headOk; rw [hq]; rfl
    rw [hq]
    clear hq
    go_wp2_with (first | (refine wp_storeBlk rfl (.tmp 2) (.tmp 18) rfl (w.heap.size + 1) (fun _ => 0) _ rfl rfl hR ?_))
    intro w2 hR2 ho2
    go_wp2_with fail
    exact bodyPost_ret (results_blk2 rfl _ _ (w.heap.size + 1) _ rfl hR2) rfl ⟨by rw [headZ, HO.out]; rfl, hL.trans (ho2.below (by omega))⟩
  by_cases h1 : 0 ≤ t
  rotate_left
  · have HO : Hid (headOk s t = false) := by show _ = _; unfold headOk; simp [h1]
    rw [hq]
    clear hq
    go_wp2_with (first | (refine wp_storeBlk rfl (.tmp 2) (.tmp 18) rfl (w.heap.size + 1) (fun _ => 0) _ rfl rfl hR ?_))
    intro w2 hR2 ho2
    go_wp2_with fail
    exact bodyPost_ret (results_blk2 rfl _ _ (w.heap.size + 1) _ rfl hR2) rfl ⟨by rw [headZ, HO.out]; rfl, hL.trans (ho2.below (by omega))⟩
  by_cases h2 : t ≤ 255
  rotate_left
  · have HO : Hid (headOk s t = false) := by show _ = _; unfold headOk; simp [h2]
    rw [hq]
    clear hq
    go_wp2_with (first | (refine wp_storeBlk rfl (.tmp 2) (.tmp 18) rfl (w.heap.size + 1) (fun _ => 0) _ rfl rfl hR ?_))
    intro w2 hR2 ho2
    go_wp2_with fail
    exact bodyPost_ret (results_blk2 rfl _ _ (w.heap.size + 1) _ rfl hR2) rfl ⟨by rw [headZ, HO.out]; rfl, hL.trans (ho2.below (by omega))⟩
  have HO : Hid (headOk s t = true) := by show _ = _; unfold headOk; rw [hq]; simp [h1, h2]
  rw [hq]
  clear hq
  go_wp2_with fail
  refine (begin_any 4 s t _ (by decide) hs0 h1).mono ?_
  rintro e w2 ⟨rfl, hb2⟩
  have hR2 := hR.below hb2 hR.lt
  have hL2 : Below w.heap.size w w2 := hL.trans (hb2.mono hL.size)
  clear hR hL hb2 c0 c1
  go_wp2_with (first | (refine wp_storeBlk rfl (.tmp 2) (.tmp 24) rfl (w.heap.size + 1) (wz (jw 4 s t nz)) _ rfl rfl hR2 ?_))
  intro w3 hR3 ho3
  go_wp2_with fail
  exact bodyPost_ret (results_blk2 rfl _ _ (w.heap.size + 1) _ rfl hR3) rfl ⟨by rw [headZ, HO.out]; rfl, hL2.trans (ho3.below (by omega))⟩

end Go.Proofs.YtnbmmhoofilmfaaDoor

/- The empty image, block by block, plainly. -/
namespace Go.Proofs.YtnbmmhoofilmfaaDoor
open Go.RowKit
set_option linter.unusedVariables false

/-- the root's inode, in its block -/
def rootI : Ino := ⟨2, 1, 1, 0, fun _ => 0, 0⟩
def rootZ : Nat → Int := over (fun _ => 0) 0 64 rootI.byte
/-- the descriptors' numbers -/
def dkB (G S I J : Int) : Nat → Int := fun _ => nDa G S I J
def dkI (I : Int) : Nat → Int := fun i => if i = 0 then I - 1 else I
def dkD : Nat → Int := fun i => if i = 0 then 1 else 0
/-- block b of the image, but for the root's inode -/
def mk0 (g s i j : Nat) (b : Nat) : Nat → Int :=
  if b = 0 then supZ g s i j 0 else if b = 1 then descZ g s i j g (dkB g s i j) (dkI i) dkD else if b = 2 then headZ 1 0
  else if b < 2 + j then fun _ => 0
  else if (b - (2 + j)) % s = 0 then bZ (mapB (2 + i / 4) s)
  else if (b - (2 + j)) % s = 1 then bZ (mapB (if (b - (2 + j)) / s = 0 then 1 else 0) i)
  else fun _ => 0
def mkB (g s i j : Nat) (b : Nat) : Nat → Int := if b = 2 + j + 2 then rootZ else mk0 g s i j b
/-- the image so far -/
def mkU (g s i j : Nat) (n : Nat) (b : Nat) : Nat → Int := if b < n then mk0 g s i j b else fun _ => 0

theorem mayN {g s i j : Nat} (hm : mayG g s i j = true) : 1 ≤ g ∧ g ≤ 4 ∧ 16 ≤ s ∧ s ≤ 512 ∧ 4 ≤ i ∧ i ≤ 64 ∧ i % 4 = 0 ∧ 40 ≤ j ∧ j ≤ 256 ∧ 3 + i / 4 ≤ s ∧ 2 + j + g * s ≤ 2048 := by
  obtain ⟨h1, h2, h3, h4, h5, h6, h7, h8, h9, h10, h11⟩ := (mayG_iff g s i j).1 hm
  have e : ((g * s : Nat) : Int) = (g : Int) * (s : Int) := Int.natCast_mul _ _
  rw [← e] at h11
  omega
theorem supOk0 {G S I J : Int} (hm : mayG G S I J = true) : supOk G S I J 0 = true := by
  have := nIn_bd G S I J
  unfold supOk; rw [hm]; simp; omega
theorem supE0 {G S I J : Int} (hm : mayG G S I J = true) : supE G S I J 0 = 0 := by
  have := nIn_bd G S I J
  unfold supE; rw [hm, if_pos rfl, if_pos (by omega)]
theorem mkMayD {g s i j : Nat} (hm : mayG g s i j = true) : mayD g s i j g (dkB g s i j) (dkI i) dkD = true := by
  obtain ⟨h1, h2, h3, h4, h5, h6, h7, h8, h9, h10, h11⟩ := mayN hm
  have := nDa_bd g s i j
  unfold mayD
  rw [Bool.and_eq_true, decide_eq_true_eq, allB_iff]
  refine ⟨rfl, fun k hk => (okD_iff _ _ _ _ _).2 ?_⟩
  unfold dkB dkI dkD
  by_cases e : k = 0
  · rw [if_pos e, if_pos e]; omega
  · rw [if_neg e, if_neg e]; omega
theorem descOk0 {g s i j : Nat} (hm : mayG g s i j = true) : descOk g s i j g (dkB g s i j) (dkI i) dkD = true := by
  unfold descOk; rw [hm, mkMayD hm]; rfl
theorem descE0 {g s i j : Nat} (hm : mayG g s i j = true) : descE g s i j g (dkB g s i j) (dkI i) dkD = 0 := by
  unfold descE; rw [hm, mkMayD hm]; rfl
theorem rootOk : putOk 0 rootI = true := by decide
theorem rootIsOk : rootI.Ok := ⟨by decide, by decide, by decide, by decide, fun i => ⟨Int.le_refl 0, (by decide : (0 : Int) < 4294967296)⟩, by decide⟩
/-- what a round adds -/
theorem mkU_round {g s i j k : Nat} (hs : 16 ≤ s) (hj : 40 ≤ j) (b : Nat) :
    (if b = 2 + j + k * s + 1 then bZ (mapB (if k = 0 then 1 else 0) i) else if b = 2 + j + k * s then bZ (mapB (2 + i / 4) s) else mkU g s i j (2 + j + k * s) b) = mkU g s i j (2 + j + (k + 1) * s) b := by
  have hk : (k + 1) * s = k * s + s := Nat.succ_mul k s
  unfold mkU
  by_cases e1 : b = 2 + j + k * s + 1
  · have hsub : b - (2 + j) = s * k + 1 := by rw [Nat.mul_comm]; omega
    have hmod : (b - (2 + j)) % s = 1 := by rw [hsub, Nat.mul_add_mod, Nat.mod_eq_of_lt (by omega)]
    have hdiv : (b - (2 + j)) / s = k := by rw [hsub, Nat.mul_add_div (by omega), Nat.div_eq_of_lt (by omega)]; rfl
    rw [if_pos e1, if_pos (show b < 2 + j + (k + 1) * s by omega)]
    unfold mk0
    rw [if_neg (show ¬ b = 0 by omega), if_neg (show ¬ b = 1 by omega), if_neg (show ¬ b = 2 by omega), if_neg (show ¬ b < 2 + j by omega), if_neg (show ¬ (b - (2 + j)) % s = 0 by omega), if_pos hmod, hdiv]
  rw [if_neg e1]
  by_cases e0 : b = 2 + j + k * s
  · have hsub : b - (2 + j) = s * k + 0 := by rw [Nat.mul_comm]; omega
    have hmod : (b - (2 + j)) % s = 0 := by rw [hsub, Nat.mul_add_mod, Nat.mod_eq_of_lt (by omega)]
    rw [if_pos e0, if_pos (by omega)]
    unfold mk0
    rw [if_neg (by omega), if_neg (by omega), if_neg (by omega), if_neg (by omega), if_pos hmod]
  rw [if_neg e0]
  by_cases h : b < 2 + j + k * s
  · rw [if_pos h, if_pos (by omega)]
  rw [if_neg h]
  by_cases h2 : b < 2 + j + (k + 1) * s
  · obtain ⟨d, hd⟩ : ∃ d, b = 2 + j + k * s + d := ⟨b - (2 + j + k * s), by omega⟩
    have hsub : b - (2 + j) = s * k + d := by rw [Nat.mul_comm]; omega
    have hmod : (b - (2 + j)) % s = d := by rw [hsub, Nat.mul_add_mod, Nat.mod_eq_of_lt (by omega)]
    rw [if_pos h2]
    unfold mk0
    rw [if_neg (by omega), if_neg (by omega), if_neg (by omega), if_neg (by omega), hmod, if_neg (by omega), if_neg (by omega)]
  · rw [if_neg h2]
/-- what stands ahead of the groups -/
theorem mkU_start {g s i j : Nat} (hj : 40 ≤ j) (b : Nat) :
    (if b = 2 then headZ 1 0 else if b = 1 then descZ g s i j g (dkB g s i j) (dkI i) dkD else if b = 0 then supZ g s i j 0 else fun _ => 0) = mkU g s i j (2 + j) b := by
  unfold mkU mk0
  by_cases e2 : b = 2
  · rw [if_pos e2, if_pos (by omega), if_neg (by omega), if_neg (by omega), if_pos e2]
  rw [if_neg e2]
  by_cases e1 : b = 1
  · rw [if_pos e1, if_pos (by omega), if_neg (by omega), if_pos e1]
  rw [if_neg e1]
  by_cases e0 : b = 0
  · rw [if_pos e0, if_pos (by omega), if_pos e0]
  rw [if_neg e0]
  by_cases h : b < 2 + j
  · rw [if_pos h, if_neg e0, if_neg e1, if_neg e2, if_pos h]
  · rw [if_neg h]
/-- the whole -/
theorem mkB_end {g s i j b : Nat} (hb : b < 2 + j + g * s) : (if b = 2 + j + 2 then rootZ else mkU g s i j (2 + j + g * s) b) = mkB g s i j b := by
  unfold mkB mkU
  by_cases e : b = 2 + j + 2
  · rw [if_pos e, if_pos e]
  · rw [if_neg e, if_neg e, if_pos hb]
end Go.Proofs.YtnbmmhoofilmfaaDoor

/- Contracts of jblock's escapes and of its reading of heads and commits. -/
namespace Go.Proofs.YtnbmmhoofilmfaaDoor
open Go.RowKit
set_option linter.unusedVariables false

/-- what a commit block tells -/
def commitV (z : Nat → Int) : Value := if commitRd z then .tuple #[.int .u32 (seqOf z), .int .i64 (wd z 3), .int .u32 (wd z 4), .int .i64 0] else .tuple #[.int .u32 0, .int .i64 0, .int .u32 0, .int .i64 90]
end Go.Proofs.YtnbmmhoofilmfaaDoor

/- A region that draws its order and holds calls that write, each call bound to wait for the one ahead of it: one walk of the lexical order, the worlds' class stepping on at each call (C 0, C 1, ..). Every other operation yields one value in every world of whatever class. No program in sight. -/
namespace Go.Proofs.YtnbmmhoofilmfaaDoor
open Go.RowKit
set_option linter.unusedVariables false

def isCall (o : Oper) : Bool := match o.op with | .call _ => true | _ => false
def plainOp (o : Oper) : Bool := match o.op with | .move _ | .assign _ | .pick _ _ _ | .build _ _ | .load _ _ | .binOp _ _ _ _ _ | .unOp _ _ _ | .convert _ _ _ | .fieldAddr _ _ _ | .field _ _ _ | .indexAddr _ _ _ | .index _ _ _ | .extract _ _ | .slice _ _ _ _ _ => true | _ => false
/-- each call waits for the one ahead of it -/
def chainB (md : Region.Mode) (ops : Array Oper) : Bool :=
  (List.range ops.size).all fun j => (List.range j).all fun i => match ops[j]?, ops[i]? with
    | some oj, some oi => !(isCall oi && isCall oj) || (List.range j).any fun p => decide (i ≤ p) && ((ops[p]?).map isCall).getD false && oj.after.any fun e => Region.binds md e && e.on == p
    | _, _ => true

section
variable {P : Program} {ops : Array Oper} {md : Region.Mode} {C : Nat → World → Prop}

theorem chainB_spec (h : chainB md ops = true) {i j : Nat} {oi oj : Oper} (hi : ops[i]? = some oi) (hj : ops[j]? = some oj) (ci : isCall oi = true) (cj : isCall oj = true) (hij : i < j) :
    ∃ p op, i ≤ p ∧ p < j ∧ ops[p]? = some op ∧ isCall op = true ∧ ∃ e ∈ oj.after, Region.binds md e = true ∧ e.on = p := by
  unfold chainB at h
  rw [List.all_eq_true] at h
  have h1 := h j (List.mem_range.2 (Array.getElem?_eq_some_iff.1 hj).1)
  rw [List.all_eq_true] at h1
  have h2 := h1 i (List.mem_range.2 hij)
  rw [hi, hj] at h2
  simp only [ci, cj, Bool.and_true, Bool.not_true, Bool.false_or, List.any_eq_true, Bool.and_eq_true, decide_eq_true_eq] at h2
  obtain ⟨p, hp, ⟨hip, hc⟩, hany⟩ := h2
  rw [Array.any_eq_true'] at hany
  obtain ⟨e, he, hb⟩ := hany
  rw [Bool.and_eq_true, beq_iff_eq] at hb
  cases ho : ops[p]? with
  | none => rw [ho] at hc; cases hc
  | some op => rw [ho] at hc; exact ⟨p, op, hip, List.mem_range.1 hp, ho, by simpa using hc, e, he, hb.1, hb.2⟩

/-- what the operation yields in the world w, the world left as it is -/
def stillUpon (w : World) (v : Value) : Result Next → Prop
  | .ok (.value u) w' => w' = w ∧ u = v
  | .ok .skip w' => w' = w ∧ v = undef
  | _ => False
def entersUpon (P : Program) (w : World) (R : Ending → World → Prop) : Result Next → Prop
  | .ok (.enter f args) w' => w' = w ∧ Calls P f args w R
  | _ => False
def stillIn (P : Program) (C : Nat → World → Prop) (o : Oper) (a : Act) (v : Value) : Prop := ∀ w, (∃ k, C k w) → stillUpon w v ((execOp a.eval o).run P w)
def callIn (P : Program) (C : Nat → World → Prop) (k : Nat) (o : Oper) (a : Act) (v : Value) : Prop := ∀ w, C k w → entersUpon P w (fun e w' => e = .returned v ∧ C (k + 1) w') ((execOp a.eval o).run P w)

/-- in state a, at step k, operation o leaves v, and step k' -/
def LY (P : Program) (ops : Array Oper) (C : Nat → World → Prop) (o : Oper) (v : Value) (a : Act) (k k' : Nat) : Prop :=
  (Region.wanted o (yielded ops a.tmps) = true ∧ ((isCall o = true ∧ callIn P C k o a v ∧ k' = k + 1) ∨ (isCall o = false ∧ stillIn P C o a v ∧ k' = k))) ∨
  (Region.wanted o (yielded ops a.tmps) = false ∧ v = undef ∧ k' = k)

def linOp (P : Program) (ops : Array Oper) (C : Nat → World → Prop) (i : Nat) (K : Nat → Act → Prop) (k : Nat) (a : Act) : Prop :=
  match ops[i]? with
  | none => K k a
  | some o => ∃ v k', LY P ops C o v a k k' ∧ K k' (a.put o.dst v)

def wpAnyL (P : Program) (md : Region.Mode) (ops : Array Oper) (C : Nat → World → Prop) (Q : Nat → Act → Prop) : Nat → Array Bool → Nat → Act → Prop
  | 0, listed, k, a => Region.ready md ops listed = [] ∧ Q k a
  | fuel + 1, listed, k, a => (Region.ready md ops listed = [] → Q k a) ∧ ∀ i ∈ Region.ready md ops listed, linOp P ops C i (wpAnyL P md ops C Q fuel (listed.setIfInBounds i true)) k a

theorem linOp_mono {i k : Nat} {a : Act} {K K' : Nat → Act → Prop} (h : ∀ k a, K k a → K' k a) (hh : linOp P ops C i K k a) : linOp P ops C i K' k a := by
  unfold linOp at *
  cases ho : ops[i]? with
  | none => rw [ho] at hh; exact h _ _ hh
  | some o => rw [ho] at hh; obtain ⟨v, k', h1, h2⟩ := hh; exact ⟨v, k', h1, h _ _ h2⟩

theorem wpOp_of_lin {i k : Nat} {a : Act} {K : Nat → Act → Prop} {K' : Act → World → Prop} {Q' : Exit → Act → World → Prop} {w : World} (hC : C k w) (h : ∀ k a w', C k w' → K k a → K' a w') (hh : linOp P ops C i K k a) : wpOp P ops Q' i K' a w := by
  unfold linOp at hh
  unfold wpOp
  split
  · rename_i ho; simp only [ho] at hh; exact h _ _ _ hC hh
  · rename_i o ho
    simp only [ho] at hh
    obtain ⟨v, k', hy, hK⟩ := hh
    rcases hy with ⟨hw, hy⟩ | ⟨hw, rfl, rfl⟩
    · simp only [hw, if_true]
      refine .inl ?_
      unfold Oper.wp
      rcases hy with ⟨_, hc, rfl⟩ | ⟨_, hs, rfl⟩
      · have h3 := hc w hC
        generalize (execOp a.eval o).run P w = r at *
        cases r with
        | ok n w' =>
          cases n <;> simp only [entersUpon] at h3 <;> simp only [Oper.upon]
          obtain ⟨rfl, hc⟩ := h3
          exact hc.mono fun e w'' ⟨he, hw''⟩ => by subst he; exact h _ _ _ hw'' hK
        | halt x w' => simp only [entersUpon] at h3
      · have h3 := hs w ⟨_, hC⟩
        generalize (execOp a.eval o).run P w = r at *
        cases r with
        | ok n w' =>
          cases n <;> simp only [stillUpon] at h3 <;> simp only [Oper.upon]
          · obtain ⟨rfl, rfl⟩ := h3; exact h _ _ _ hC hK
          · obtain ⟨rfl, rfl⟩ := h3; exact h _ _ _ hC hK
        | halt x w' => simp only [stillUpon] at h3
    · simp only [hw]; exact h _ _ _ hC hK

theorem wpAny_of_lin {Q : Nat → Act → Prop} {Q' : Exit → Act → World → Prop} (hQ : ∀ k a w, C k w → Q k a → Q' .normal a w) : ∀ (fuel : Nat) (listed : Array Bool) (k : Nat) (a : Act) (w : World), C k w →
    wpAnyL P md ops C Q fuel listed k a → wpAny P md ops Q' fuel listed a w
  | 0, _, _, _, _, hw, h => ⟨h.1, hQ _ _ _ hw h.2⟩
  | fuel + 1, _, _, _, _, hw, h => ⟨fun h0 => hQ _ _ _ hw (h.1 h0), fun i hi => wpOp_of_lin hw (fun k' a' w' hw' => wpAny_of_lin hQ fuel _ k' a' w' hw') (h.2 i hi)⟩

theorem LY.linOp {i k k' : Nat} {o : Oper} {v : Value} {a : Act} (hi : ops[i]? = some o) (hy : LY P ops C o v a k k') {K : Nat → Act → Prop} (h : K k' (a.put o.dst v)) : linOp P ops C i K k a := by
  unfold Proofs.YtnbmmhoofilmfaaDoor.linOp
  simp only [hi]
  exact ⟨v, k', hy, h⟩

theorem LY.of_same {o : Oper} {v : Value} {a a' : Act} {k k' : Nat} (hy : LY P ops C o v a k k') (he : execOp a'.eval o = execOp a.eval o)
    (hw : Region.wanted o (yielded ops a'.tmps) = Region.wanted o (yielded ops a.tmps)) : LY P ops C o v a' k k' := by
  unfold LY callIn stillIn at *
  rw [he, hw]
  exact hy
/-- an operation that is no call does not look at the step -/
theorem LY.step {o : Oper} {v : Value} {a : Act} {k k' : Nat} (hy : LY P ops C o v a k k') (hc : isCall o = false) : k' = k ∧ ∀ m, LY P ops C o v a m m := by
  rcases hy with ⟨hw, ⟨h, _⟩ | ⟨h, hs, rfl⟩⟩ | ⟨hw, rfl, rfl⟩
  · rw [hc] at h; cases h
  · exact ⟨rfl, fun m => .inl ⟨hw, .inr ⟨h, hs, rfl⟩⟩⟩
  · exact ⟨rfl, fun m => .inr ⟨hw, rfl, rfl⟩⟩

theorem linOp_put {j k k1 : Nat} {oi oj : Oper} {v : Value} (hj : ops[j]? = some oj) (hap : oi.apart ops oj = true)
    (hsi : ∀ cs b, oi.op ≠ .select cs b) (hsj : ∀ cs b, oj.op ≠ .select cs b) (hcc : isCall oi = false ∨ isCall oj = false) {K : Nat → Act → Prop} {a : Act}
    (hy : LY P ops C oi v a k k1) (h : linOp P ops C j K k1 (a.put oi.dst v)) :
    linOp P ops C j (fun k' a' => ∃ k1', LY P ops C oi v a' k' k1' ∧ K k1' (a'.put oi.dst v)) k a := by
  obtain ⟨h1, h2, h3⟩ := Oper.apart_spec hap
  have keep : ∀ (u : Value) (m m' : Nat), LY P ops C oi v a m m' → LY P ops C oi v (a.put oj.dst u) m m' := fun u m m' hy =>
    hy.of_same (execOp_put oi hsi a oj.dst u h3) (wanted_put oi a oj.dst u h3)
  unfold linOp at *
  simp only [hj] at *
  obtain ⟨u, k2, hu, hK⟩ := h
  have hu' : LY P ops C oj u a k1 k2 := hu.of_same (execOp_put oj hsj a oi.dst v h1).symm (wanted_put oj a oi.dst v h1).symm
  rw [Act.put_comm a v u h2] at hK
  rcases hcc with hc | hc
  · obtain ⟨rfl, hany⟩ := hy.step hc
    exact ⟨u, k2, hu', k2, keep u _ _ (hany k2), hK⟩
  · obtain ⟨rfl, hany⟩ := hu'.step hc
    exact ⟨u, k, hany k, k2, keep u _ _ hy, hK⟩

/-- the calls that are listed have all calls ahead of them listed -/
def Pre (ops : Array Oper) (listed : Array Bool) : Prop := ∀ i j oi oj, ops[i]? = some oi → ops[j]? = some oj → isCall oi = true → isCall oj = true → i < j → listed.getD j false = true → listed.getD i false = true

theorem getD_both {listed : Array Bool} {i : Nat} (h : listed.getD i true = false) : listed.getD i false = false := by
  rcases Nat.lt_or_ge i listed.size with h' | h'
  · simp [h'] at h ⊢; exact h
  · simp [Array.getElem?_eq_none h']

theorem Pre.next (hch : chainB md ops = true) {listed : Array Bool} (h : Pre ops listed) {j : Nat} (hj : j ∈ Region.ready md ops listed) : Pre ops (listed.setIfInBounds j true) := by
  intro i m oi om hi hm ci cm him hl
  obtain ⟨hun, oj, hoj, hall⟩ := mem_ready.1 hj
  by_cases hmj : j = m
  · subst hmj
    rw [hoj] at hm; cases hm
    obtain ⟨p, op, hip, hpj, hp, cp, e, he, hb, heq⟩ := chainB_spec hch hi hoj ci cm him
    have hp' := hall e he hb
    rw [heq] at hp'
    refine getD_set_true ?_
    by_cases hpi : i = p
    · subst hpi; exact hp'
    · exact h i p oi op hi hp ci cp (by omega) hp'
  · rw [getD_set_ne false hmj] at hl
    exact getD_set_true (h i m oi om hi hm ci cm him hl)

/-- the lexical walk -/
def wpLin (P : Program) (ops : Array Oper) (C : Nat → World → Prop) (Q : Nat → Act → Prop) : List Oper → Nat → Act → Prop
  | [], k, a => Q k a
  | o :: rest, k, a => ∃ v k', LY P ops C o v a k k' ∧ wpLin P ops C Q rest k' (a.put o.dst v)

/-! ### Steps of the walk -/
theorem v_no_enter (s : Sem Value) (w : World) (f : FuncId) (args : Array Value) (w' : World) : (do pure (.value (← s)) : Sem Next).run P w ≠ .ok (.enter f args) w' := by
  rw [Sem.run_bind]
  cases s.run P w <;> simp [Result.andThen, Sem.run_pure]
theorem plain_no_enter {o : Oper} (ho : plainOp o = true) (a : Act) (w : World) (f : FuncId) (args : Array Value) (w' : World) : (execOp a.eval o).run P w ≠ .ok (.enter f args) w' := by
  unfold plainOp at ho
  unfold execOp
  split at ho
  case h_3 c x y hop =>
    simp only [hop]
    rw [Sem.run_bind]
    cases (asBool (a.eval c)).run P w <;> simp [Result.andThen, Sem.run_pure]
  case h_15 => cases ho
  all_goals
    rename_i hop
    simp only [hop]
    first | exact v_no_enter _ w f args w' | (rw [Sem.run_pure]; intro h; cases h)

theorem wpLin_nil {Q : Nat → Act → Prop} {k : Nat} {a : Act} (h : Q k a) : wpLin P ops C Q [] k a := h
/-- operations that are no calls -/
theorem lin_seg {Q : Nat → Act → Prop} {k : Nat} : ∀ (seg rest : List Oper) (a : Act), seg.all (fun o => plainOp o && !isCall o) = true →
    wpQuiet P ops (fun w' => ∃ s : InW (fun w => ∃ k, C k w), w' = s.W) (fun a' => wpLin P ops C Q rest k a') seg a → wpLin P ops C Q (seg ++ rest) k a
  | [], rest, a, _, h => h
  | o :: seg, rest, a, hp, h => by
    rw [List.all_cons, Bool.and_eq_true, Bool.and_eq_true, Bool.not_eq_true'] at hp
    obtain ⟨⟨hpl, hnc⟩, hp'⟩ := hp
    unfold wpQuiet at h
    by_cases hw : Region.wanted o (yielded ops a.tmps) = true
    · rw [if_pos hw] at h
      obtain ⟨v, h1, h2⟩ := h
      refine ⟨v, k, .inl ⟨hw, .inr ⟨hnc, fun w hC => ?_, rfl⟩⟩, lin_seg seg rest _ hp' h2⟩
      have h3 := h1 w ⟨⟨w, hC⟩, rfl⟩
      unfold Oper.quietAt at h3
      have h4 := fun f args w' => plain_no_enter (P := P) hpl a w f args w'
      generalize (execOp a.eval o).run P w = r at *
      cases r with
      | ok n w' =>
        cases n <;> simp only [Oper.quietUpon] at h3 <;> simp only [stillUpon]
        · exact h3
        · exact h3
        · exact (h4 _ _ _ rfl).elim
      | halt x w' => simp only [Oper.quietUpon] at h3
    · rw [if_neg hw] at h
      exact ⟨undef, k, .inr ⟨by simpa using hw, rfl, rfl⟩, lin_seg seg rest _ hp' h⟩
theorem lin_take {Q : Nat → Act → Prop} {k : Nat} (n : Nat) {l : List Oper} {a : Act} (hp : (l.take n).all (fun o => plainOp o && !isCall o) = true)
    (h : wpQuiet P ops (fun w' => ∃ s : InW (fun w => ∃ k, C k w), w' = s.W) (fun a' => wpLin P ops C Q (l.drop n) k a') (l.take n) a) : wpLin P ops C Q l k a := by
  have := lin_seg (l.take n) (l.drop n) a hp h
  rwa [List.take_append_drop] at this
/-- a call -/
theorem lin_call {Q : Nat → Act → Prop} {k : Nat} {o : Oper} {rest : List Oper} {a : Act} (hw : Region.wanted o (yielded ops a.tmps) = true) (hc : isCall o = true) (f : FuncId) (args : Array Value) (v : Value)
    (he : ∀ w, (execOp a.eval o).run P w = .ok (.enter f args) w) (hcall : ∀ w, C k w → Calls P f args w fun e w' => e = .returned v ∧ C (k + 1) w')
    (h : wpLin P ops C Q rest (k + 1) (a.put o.dst v)) : wpLin P ops C Q (o :: rest) k a :=
  ⟨v, k + 1, .inl ⟨hw, .inl ⟨hc, fun w hC => by rw [he]; exact ⟨rfl, hcall w hC⟩, rfl⟩⟩, h⟩
end
end Go.Proofs.YtnbmmhoofilmfaaDoor

/- Contracts of jblock.writeRows over tags, and of WriteDesc. -/
namespace Go.Proofs.YtnbmmhoofilmfaaDoor
open Go.RowKit
set_option linter.unusedVariables false

/-- n tags stand at a place -/
def TagSeg (w : World) (b off n : Nat) (tb : Nat → Int) (te : Nat → Bool) : Prop := ∀ i, i < n → w.cell? ⟨b, off + i * 2, none⟩ = some (.int .u32 (tb i)) ∧ w.cell? ⟨b, off + i * 2 + 1, none⟩ = some (.bool (te i))
/-- a slice of n tags -/
def TagRow (w : World) (a : Option Addr) (n : Nat) (tb : Nat → Int) (te : Nat → Bool) : Prop := n = 0 ∨ ∃ b off, a = some ⟨b, off, none⟩ ∧ TagSeg w b off n tb te
theorem TagSeg.below {w w' : World} {b off n : Nat} {tb : Nat → Int} {te : Nat → Bool} (h : TagSeg w b off n tb te) {B : Nat} (hb : Below B w w') (hB : b < B) : TagSeg w' b off n tb te :=
  fun i hi => ⟨(hb.cell (p := ⟨b, off + i * 2, none⟩) hB).trans (h i hi).1, (hb.cell (p := ⟨b, off + i * 2 + 1, none⟩) hB).trans (h i hi).2⟩
theorem TagSeg.lt {w : World} {b off n : Nat} {tb : Nat → Int} {te : Nat → Bool} (h : TagSeg w b off n tb te) (hn : 0 < n) : b < w.heap.size := World.block_lt_of_cell? w _ (h 0 hn).1
theorem TagRow.below {w w' : World} {a : Option Addr} {n : Nat} {tb : Nat → Int} {te : Nat → Bool} (h : TagRow w a n tb te) (hb : Below w.heap.size w w') : TagRow w' a n tb te := by
  rcases h with h | ⟨b, off, rfl, h⟩
  · exact .inl h
  · by_cases h0 : n = 0
    · exact .inl h0
    · exact .inr ⟨b, off, rfl, h.below hb (h.lt (by omega))⟩

def bit (b : Bool) : Int := if b then 1 else 0
/-- the rows of the first k tags -/
def tagR (tb : Nat → Int) (te : Nat → Bool) (k : Nat) (j : Nat) : Int := if j < 2 * k then (if j % 2 = 0 then tb (j / 2) else bit (te (j / 2))) else 0
def jdOk (s : Int) (n : Nat) (tb : Nat → Int) : Bool := seqB s && (decide (1 ≤ n ∧ n ≤ 30) && riseB tb n)
def jdZ (s : Int) (n : Nat) (tb : Nat → Int) (te : Nat → Bool) : Nat → Int := if jdOk s n tb then wz (jw 1 s n (tagR tb te n)) else fun _ => 0
end Go.Proofs.YtnbmmhoofilmfaaDoor

/- The contract of jblock.writeRows over tags, and of WriteDesc. -/
namespace Go.Proofs.YtnbmmhoofilmfaaDoor
open Go.RowKit
set_option linter.unusedVariables false

/-- what stands while rows are written -/
structure WrSt (w : World) (G : Nat) (l : Nat → Int) (b off n : Nat) (tb : Nat → Int) (te : Nat → Bool) (W : World) : Prop where
  r : Blk W w.heap.size 32 256 (fun _ => 0)
  g : Blk W G 32 256 (wz l)
  t : TagSeg W b off n tb te
  bel : Below w.heap.size w W
theorem WrSt.below {w W W' : World} {G : Nat} {l : Nat → Int} {b off n : Nat} {tb : Nat → Int} {te : Nat → Bool} (h : WrSt w G l b off n tb te W) (hn : 0 < n) (hb : Below W.heap.size W W') : WrSt w G l b off n tb te W' :=
  ⟨h.r.below hb h.r.lt, h.g.below hb h.g.lt, h.t.below hb (h.t.lt hn), h.bel.trans (hb.mono h.bel.size)⟩
/-- .. with the tag at hand in a block of its own -/
structure WrTag (w : World) (G : Nat) (l : Nat → Int) (b off n : Nat) (tb : Nat → Int) (te : Nat → Bool) (V : Nat) (v : Array Value) (W : World) : Prop extends WrSt w G l b off n tb te W where
  v : At W V 169 v
theorem WrTag.below {w W W' : World} {G : Nat} {l : Nat → Int} {b off n : Nat} {tb : Nat → Int} {te : Nat → Bool} {V : Nat} {v : Array Value} (h : WrTag w G l b off n tb te V v W) (hn : 0 < n) (hb : Below W.heap.size W W') : WrTag w G l b off n tb te V v W' :=
  ⟨h.toWrSt.below hn hb, h.v.below hb h.v.lt⟩
/-- .. and, j calls being over, written -/
structure WrPut (w : World) (G : Nat) (l : Nat → Nat → Int) (b off n : Nat) (tb : Nat → Int) (te : Nat → Bool) (V : Nat) (v : Array Value) (j : Nat) (W : World) : Prop where
  s : WrTag w G (l j) b off n tb te V v W

theorem TagSeg.grown {w w' : World} {b off n G : Nat} {tb : Nat → Int} {te : Nat → Bool} (h : TagSeg w b off n tb te) (hg : w.grownBy w' (some G)) (hb : b ≠ G) : TagSeg w' b off n tb te := fun i hi => by
  have hh := h i hi
  have hbl : w'.heap[b]? = w.heap[b]? := hg.block b (World.block_lt_of_cell? w _ hh.1) (by simpa using hb)
  exact ⟨(show w'.cell? ⟨b, off + i * 2, none⟩ = w.cell? ⟨b, off + i * 2, none⟩ from World.cell?_of_block (w := w) hbl).trans hh.1, (show w'.cell? ⟨b, off + i * 2 + 1, none⟩ = w.cell? ⟨b, off + i * 2 + 1, none⟩ from World.cell?_of_block (w := w) hbl).trans hh.2⟩
end Go.Proofs.YtnbmmhoofilmfaaDoor

/- Contracts of jblock.ReadHead, of writeRows over numbers, and of WriteRevoke. -/
namespace Go.Proofs.YtnbmmhoofilmfaaDoor
open Go.RowKit
set_option linter.unusedVariables false

/-- n numbers stand at a place -/
def NumSeg (w : World) (b off n : Nat) (m : Nat → Int) : Prop := ∀ i, i < n → w.cell? ⟨b, off + i, none⟩ = some (.int .u32 (m i))
def NumRow (w : World) (a : Option Addr) (n : Nat) (m : Nat → Int) : Prop := n = 0 ∨ ∃ b off, a = some ⟨b, off, none⟩ ∧ NumSeg w b off n m
theorem NumSeg.below {w w' : World} {b off n : Nat} {m : Nat → Int} (h : NumSeg w b off n m) {B : Nat} (hb : Below B w w') (hB : b < B) : NumSeg w' b off n m :=
  fun i hi => (hb.cell (p := ⟨b, off + i, none⟩) hB).trans (h i hi)
theorem NumSeg.lt {w : World} {b off n : Nat} {m : Nat → Int} (h : NumSeg w b off n m) (hn : 0 < n) : b < w.heap.size := World.block_lt_of_cell? w _ (h 0 hn)
theorem NumSeg.only {w w' : World} {b off n g : Nat} {m : Nat → Int} (h : NumSeg w b off n m) (hb : Only g w w') (hg : b ≠ g) : NumSeg w' b off n m :=
  fun i hi => (hb.cell (p := ⟨b, off + i, none⟩) hg).trans (h i hi)
theorem NumRow.below {w w' : World} {a : Option Addr} {n : Nat} {m : Nat → Int} (h : NumRow w a n m) (hb : Below w.heap.size w w') : NumRow w' a n m := by
  rcases h with h | ⟨b, off, rfl, h⟩
  · exact .inl h
  · by_cases h0 : n = 0
    · exact .inl h0
    · exact .inr ⟨b, off, rfl, h.below hb (h.lt (by omega))⟩
/-- the rows of the first k numbers -/
def numR (m : Nat → Int) (k : Nat) (j : Nat) : Int := if j < k then m j else 0
def revOk (s : Int) (n : Nat) (m : Nat → Int) : Bool := seqB s && (decide (1 ≤ n ∧ n ≤ 60) && riseB m n)
def revZ (s : Int) (n : Nat) (m : Nat → Int) : Nat → Int := if revOk s n m then wz (jw 3 s n (numR m n)) else fun _ => 0
structure NrSt (w : World) (G : Nat) (l : Nat → Int) (b off n : Nat) (m : Nat → Int) (W : World) : Prop where
  r : Blk W w.heap.size 32 256 (fun _ => 0)
  g : Blk W G 32 256 (wz l)
  t : NumSeg W b off n m
  bel : Below w.heap.size w W

/-- the head that a block tells -/
def hdS (z : Nat → Int) : Int := if headRd z then seqOf z else 0
def hdT (z : Nat → Int) : Int := if headRd z then wd z 3 else 0
end Go.Proofs.YtnbmmhoofilmfaaDoor

/- The contract of jblock.readRows over numbers, and of ReadRevoke. -/
namespace Go.Proofs.YtnbmmhoofilmfaaDoor
open Go.RowKit
set_option linter.unusedVariables false

/-- how many rows a block tells -/
def rowsN (z : Nat → Int) : Nat := (wd z 3).toNat
def revM (z : Nat → Int) : Nat → Int := fun i => wd z (4 + i)
def revRd (z : Nat → Int) : Bool := kindOf z == 3 && (decide (1 ≤ wd z 3 ∧ wd z 3 ≤ 60) && (riseB (revM z) (rowsN z) && allZ (fun j => wd z (4 + rowsN z + j)) (60 - rowsN z)))
/-- what ReadRevoke answers -/
def RevRead (w : World) (z : Nat → Int) (e : Ending) (w' : World) : Prop :=
  Below w.heap.size w w' ∧ (revRd z = false ∧ e = .returned (.tuple #[.int .u32 0, .slice none 0 0, .int .i64 90]) ∨
    revRd z = true ∧ ∃ g cap, e = .returned (.tuple #[.int .u32 (wd z 2), .slice (some ⟨g, 0, none⟩) (rowsN z) cap, .int .i64 0]) ∧ w'.ownsRow w.heap.size 34 1 (.slice (some ⟨g, 0, none⟩) (rowsN z) cap) (rowsN z) (Ks .u32 (rowsN z) (revM z)))
/-- what stands while rows are read -/
structure RnSt (w : World) (z : Nat → Int) (g cap k : Nat) (W : World) : Prop where
  b : Blk W w.heap.size 32 256 z
  own : W.ownsRow (w.heap.size + 1) 34 1 (.slice (some ⟨g, 0, none⟩) k cap) k (Ks .u32 k (revM z))
  bel : Below w.heap.size w W
theorem own_form {W : World} {base k : Nat} {e : TypeId} {size : Nat} {v : Value} {xs : List Value} (h : W.ownsRow base e size v (k + 1) xs) : ∃ g cap, v = .slice (some ⟨g, 0, none⟩) (k + 1) cap := by
  rcases h.2 with ⟨_, h0⟩ | ⟨g', cap', cur, hv, _⟩
  · omega
  · exact ⟨g', cap', hv⟩
end Go.Proofs.YtnbmmhoofilmfaaDoor
