/- Texts of this claim, merged by a program (a claim may have 60 files): Region, Inv, Bar, Store, New, S8a. -/
import Derived.Deep.QuietTactic
import Derived.BigQuiet
import Derived.WalkKit
import Derived.Deep.MidRow
import Derived.Test.YtnbmmhoofilmfaaDoorK06
import Derived.Lib.Strings
import Derived.Lib.Slices
import Derived.Lib.Walk
import Derived.Lib.Bytealg
/- A region that draws its order, whose operations yield one value in every world of a class, and whose calls stay in the class: one walk. No program in sight. -/
namespace Go.Proofs.YtnbmmhoofilmfaaDoor
open Go.RowKit
set_option linter.unusedVariables false
variable {P : Program}
/-- the worlds that meet S -/
structure InW (S : World → Prop) where
  W : World
  h : S W
def InS (S : World → Prop) (w' : World) : Prop := ∃ s : InW S, w' = s.W
theorem InS.mk {S : World → Prop} {w : World} (h : S w) : InS S w := ⟨⟨w, h⟩, rfl⟩
theorem InS.out {S : World → Prop} {w : World} (h : InS S w) : S w := by obtain ⟨s, rfl⟩ := h; exact s.h
theorem wp_region_S (S : World → Prop) {id : Nat} {Q : Exit → Act → World → Prop} {a : Act} {w : World} {l : List Oper} (hm : P.follows .mixedOrders = true) (hB : Region.lexB .any l.toArray = true) (hS : S { w with drawn := w.drawn + 1 })
    (h : Nonempty (InW S) → wpQuiet P l.toArray (fun w' => ∃ s : InW S, w' = s.W) (fun a' => ∀ w', InS S w' → Q .normal a' w') l a) : (Code.region id l.toArray true).wp P Q a w :=
  wp_region_quiet (C := fun w' => ∃ s : InW S, w' = s.W) hm hB ⟨⟨_, hS⟩, rfl⟩ (h ⟨⟨_, hS⟩⟩)
/-- a call in such a region -/
theorem q_call {S : World → Prop} {f : FuncId} {args : Array Value} {v : Value} (s : InW S) (h : ∀ W, S W → Calls P f args W fun e w' => e = .returned v ∧ S w') : Calls P f args s.W fun e w' => e = .returned v ∧ ∃ s' : InW S, w' = s'.W :=
  (h s.W s.h).mono fun e w' hh => ⟨hh.1, ⟨w', hh.2⟩, rfl⟩
/-- a load of many cells in such a region -/
theorem q_load {S : World → Prop} {ops : Array Oper} {Q : Act → Prop} {a : Act} {o : Oper} {rest : List Oper} (hw : Region.wanted o (yielded ops a.tmps) = true) (ty : TypeId) (x : Operand) (ho : o.op = .load ty x)
    (b off : Nat) (hx : a.eval x = .pointer (some ⟨b, off, none⟩)) (cs : List Value) (d : TypeDesc) (hS : ∀ w, S w → w.rangeAt b off cs)
    (hu : P.underlying ty = some d) (hd : d.isRow = true) (hi : (P.info? ty).map (·.size) = some cs.length)
    (h : wpQuiet P ops (fun w' => ∃ s : InW S, w' = s.W) Q rest (a.put o.dst (.agg cs.toArray))) : wpQuiet P ops (fun w' => ∃ s : InW S, w' = s.W) Q (o :: rest) a := by
  refine wpQuiet_step fun K hK => ?_
  rw [if_pos hw]
  refine ⟨.agg cs.toArray, fun w hw' => ?_, hK _ h⟩
  obtain ⟨s, rfl⟩ := hw'
  unfold Oper.quietAt execOp
  simp only [ho, hx, Instr.loadAt, Instr.sureAddr, Sem.run_bind, Sem.run_pure, Result.andThen_ok, run_loadVar_mid s.W b off ty cs d (hS s.W s.h) hu hd hi]
  exact ⟨rfl, rfl⟩
/-- the frame written out -/
theorem wpQuiet_frame {ops : Array Oper} {C : World → Prop} {Q : Act → Prop} {l : List Oper} {a a' : Act} (e : a = a') (h : wpQuiet P ops C Q l a') : wpQuiet P ops C Q l a := e ▸ h
end Go.Proofs.YtnbmmhoofilmfaaDoor

/- A region that draws its order, walked by what holds between its operations, whichever have come up. And 'c, d := b, b' for blocks. -/
namespace Go.Proofs.YtnbmmhoofilmfaaDoor
open Go.RowKit
set_option linter.unusedVariables false

/-- each operation waits for earlier ones alone -/
def downB (md : Region.Mode) (ops : Array Oper) : Bool :=
  (List.range ops.size).all fun i => ((ops[i]?).map fun o => o.after.all fun e => !Region.binds md e || decide (e.on < i)).getD true
/-- all that it waits for has come up -/
def upB (md : Region.Mode) (o : Oper) (l : Nat → Bool) : Bool := o.after.all fun e => !Region.binds md e || l e.on

section
variable {P : Program} {md : Region.Mode} {ops : Array Oper}
theorem downB_spec (h : downB md ops = true) {i : Nat} {o : Oper} (hi : ops[i]? = some o) {e : Edge} (he : e ∈ o.after) (hb : Region.binds md e = true) : e.on < i := by
  unfold downB at h
  rw [List.all_eq_true] at h
  have h1 := h i (List.mem_range.2 (Array.getElem?_eq_some_iff.1 hi).1)
  rw [hi] at h1
  simp only [Option.map_some, Option.getD_some] at h1
  rw [Array.all_eq_true'] at h1
  have h2 := h1 e he
  rw [hb] at h2
  simpa using h2
theorem ready_nil (h : downB md ops = true) {listed : Array Bool} (hs : listed.size = ops.size) (hr : Region.ready md ops listed = []) : ∀ i, i < ops.size → listed.getD i false = true := by
  intro i
  induction i using Nat.strongRecOn with
  | _ i ih =>
    intro hi
    cases hl : listed.getD i false with
    | true => rfl
    | false =>
      exfalso
      have : i ∈ Region.ready md ops listed := by
        refine mem_ready.2 ⟨?_, ops[i], Array.getElem?_eq_getElem hi, fun e he hb => ?_⟩
        · rw [Array.getD_eq_getD_getElem?, Array.getElem?_eq_getElem (by omega)] at hl ⊢; simpa using hl
        · have := downB_spec h (Array.getElem?_eq_getElem hi) he hb
          exact ih _ this (by omega)
      rw [hr] at this
      cases this

/-- what is to be shown of each operation -/
def StepsI (P : Program) (md : Region.Mode) (ops : Array Oper) (Q : Exit → Act → World → Prop) (I : (Nat → Bool) → Act → World → Prop) : Nat → List Oper → Prop
  | _, [] => True
  | n, o :: rest => (∀ l a w, l n = false → upB md o l = true → I l a w → wpOp P ops Q n (I (fun j => j == n || l j)) a w) ∧ StepsI P md ops Q I (n + 1) rest
theorem StepsI.get {Q : Exit → Act → World → Prop} {I : (Nat → Bool) → Act → World → Prop} : ∀ (L : List Oper) (n i : Nat) (o : Oper), StepsI P md ops Q I n L → L[i]? = some o →
    ∀ l a w, l (n + i) = false → upB md o l = true → I l a w → wpOp P ops Q (n + i) (I (fun j => j == (n + i) || l j)) a w
  | [], _, _, _, _, h => by cases h
  | o' :: L, n, 0, o, h, hi => by cases hi; exact h.1
  | o' :: L, n, i + 1, o, h, hi => by
    have := StepsI.get L (n + 1) i o h.2 (by simpa using hi)
    rw [show n + 1 + i = n + (i + 1) by omega] at this
    exact this

theorem wpAny_inv {Q : Exit → Act → World → Prop} {I : (Nat → Bool) → Act → World → Prop} (hd : downB md ops = true) (hst : StepsI P md ops Q I 0 ops.toList)
    (hI : ∀ l l' a w, (∀ i, i < ops.size → l i = l' i) → I l a w → I l' a w)
    (hend : ∀ a w, I (fun _ => true) a w → Q .normal a w) : ∀ (fuel : Nat) (listed : Array Bool) (a : Act) (w : World), listed.size = ops.size → (listed.toList.filter (fun b => !b)).length = fuel →
      I (fun j => listed.getD j false) a w → wpAny P md ops Q fuel listed a w := by
  have fin : ∀ (listed : Array Bool) (a : Act) (w : World), listed.size = ops.size → Region.ready md ops listed = [] → I (fun j => listed.getD j false) a w → Q .normal a w := fun listed a w hs hr h =>
    hend a w (hI _ _ a w (fun i hi => ready_nil hd hs hr i hi) h)
  intro fuel
  induction fuel with
  | zero =>
    intro listed a w hs hc h
    have hall : ∀ b ∈ listed.toList, b = true := by
      intro b hb
      cases b with
      | true => rfl
      | false =>
        have : false ∈ listed.toList.filter (fun b => !b) := List.mem_filter.2 ⟨hb, rfl⟩
        rw [List.length_eq_zero_iff.1 hc] at this
        cases this
    have hr : Region.ready md ops listed = [] := by
      cases hr : Region.ready md ops listed with
      | nil => rfl
      | cons i r =>
        have hi : i ∈ Region.ready md ops listed := by rw [hr]; simp
        obtain ⟨h1, o, ho, _⟩ := mem_ready.1 hi
        have hlt : i < listed.size := by rw [hs]; exact (Array.getElem?_eq_some_iff.1 ho).1
        rw [Array.getD_eq_getD_getElem?, Array.getElem?_eq_getElem hlt] at h1
        have := hall listed[i] (by simp)
        simp [this] at h1
    exact ⟨hr, fin listed a w hs hr h⟩
  | succ fuel ih =>
    intro listed a w hs hc h
    refine ⟨fun hr => fin listed a w hs hr h, fun i hi => ?_⟩
    obtain ⟨h1, o, ho, hall⟩ := mem_ready.1 hi
    have hlt : i < listed.size := by rw [hs]; exact (Array.getElem?_eq_some_iff.1 ho).1
    have hli : listed[i] = false := by rw [Array.getD_eq_getD_getElem?, Array.getElem?_eq_getElem hlt] at h1; simpa using h1
    have hstep := StepsI.get ops.toList 0 i o hst (by simpa using ho) (fun j => listed.getD j false) a w (by rw [Nat.zero_add, Array.getD_eq_getD_getElem?, Array.getElem?_eq_getElem hlt]; simpa using hli)
      (by
        unfold upB
        rw [Array.all_eq_true']
        intro e he
        cases hb : Region.binds md e with
        | false => rfl
        | true => simpa using hall e he hb) h
    rw [Nat.zero_add] at hstep
    refine wpOp_mono (fun a' w' h' => ?_) hstep
    refine ih _ a' w' (by simpa using hs) ?_ (hI _ _ a' w' (fun j hj => ?_) h')
    · have key : ∀ (L : List Bool) (i : Nat) (hi : i < L.length), L[i] = false → ((L.set i true).filter (fun b => !b)).length + 1 = (L.filter (fun b => !b)).length := by
        intro L
        induction L with
        | nil => intro i hi; simp at hi
        | cons b L ihL =>
          intro i hi hb
          cases i with
          | zero => simp at hb; subst hb; simp
          | succ i =>
            have := ihL i (by simpa using hi) (by simpa using hb)
            cases b <;> simp <;> omega
      have := key listed.toList i (by simpa using hlt) (by simpa using hli)
      rw [hc] at this
      have e : (listed.setIfInBounds i true).toList = listed.toList.set i true := by simp
      rw [e]
      omega
    · by_cases hji : j = i
      · subst hji
        simp [Array.getD_eq_getD_getElem?, hlt]
      · simp only [Array.getD_eq_getD_getElem?, Array.getElem?_setIfInBounds_ne (Ne.symm hji), show (j == i) = false by simpa using hji, Bool.false_or]

/-- **A drawn region by what holds between its operations.** I says what holds of the frame and the world by which operations have come up. -/
theorem wp_region_inv (I : (Nat → Bool) → Act → World → Prop) {id : Nat} {Q : Exit → Act → World → Prop} {a : Act} {w : World} {L : List Oper} (hm : P.follows .mixedOrders = true) (hd : downB .any L.toArray = true)
    (hI : ∀ l l' a w, (∀ i, i < L.length → l i = l' i) → I l a w → I l' a w) (h0 : I (fun _ => false) a { w with drawn := w.drawn + 1 }) (hst : StepsI P .any L.toArray Q I 0 L)
    (hend : ∀ a w, I (fun _ => true) a w → Q .normal a w) : (Code.region id L.toArray true).wp P Q a w := by
  refine wp_region_any hm (wpAny_inv (I := I) hd (by simpa using hst) (by simpa using hI) hend _ _ a _ (by simp) (by simp) (hI _ _ _ _ (fun i hi => ?_) h0))
  simp [Array.getD_eq_getD_getElem?, hi]
end
end Go.Proofs.YtnbmmhoofilmfaaDoor

/- A drawn region in two phases: the first n operations in whatever order, each quiet in a class of worlds; the others wait for all that stand ahead of them, so they come one behind the other. No program in sight. -/
namespace Go.Proofs.YtnbmmhoofilmfaaDoor
open Go.RowKit
set_option linter.unusedVariables false

/-- from n on each operation waits for all ahead of it; ahead of n the guards stand ahead of n -/
def barB (md : Region.Mode) (n : Nat) (ops : Array Oper) : Bool :=
  (List.range ops.size).all fun j => match ops[j]? with
    | none => true
    | some o => if j < n then (match o.guard with | none => true | some (g, _) => decide (g < n)) else (List.range j).all fun i => o.after.any fun e => Region.binds md e && e.on == i

section
variable {P : Program} {md : Region.Mode} {ops : Array Oper}
end
end Go.Proofs.YtnbmmhoofilmfaaDoor

/- A store of one cell; a byte stored into a block. -/
namespace Go.Proofs.YtnbmmhoofilmfaaDoor
open Go.RowKit
set_option linter.unusedVariables false

section
variable {P : Program}
theorem run_storeVar1 (w : World) (b off : Nat) (ty : TypeId) (u v : Value) (hc : w.cell? ⟨b, off, none⟩ = some u) (hf : w.frozen? ⟨b, off, none⟩ = false) (hi : (P.info? ty).map (·.size) = some 1) (h1 : v.oneCell' = true) :
    (storeVar ty ⟨b, off, none⟩ v).run P w = .ok () (w.setCell ⟨b, off, none⟩ v) := by
  have hv : v.cells = #[v] := by cases v <;> first | rfl | cases h1
  have hst : (store ⟨b, off, none⟩ v).run P w = .ok () (w.setCell ⟨b, off, none⟩ v) := by rw [run_store P w _ _ _ h1, hc]; simp [hf]
  cases hq : P.info? ty with
  | none => simp [hq] at hi
  | some i =>
    have hs : i.size = 1 := by simpa [hq] using hi
    simp [storeVar, sizeOf, typeInfo, hq, hv, hs, storeCells, addr_add, hst]
theorem wp_store1 {ops : Array Oper} {rest : List Oper} {o : Oper} {a : Act} {w : World} {Q : Exit → Act → World → Prop} (hgd : o.guard = none) (ty : TypeId) (x y : Operand) (ho : o.op = .store ty x y)
    (b off : Nat) (v : Value) (hx : a.eval x = .pointer (some ⟨b, off, none⟩)) (hy : a.eval y = v) (u : Value) (hc : w.cell? ⟨b, off, none⟩ = some u) (hf : w.frozen? ⟨b, off, none⟩ = false) (hi : (P.info? ty).map (·.size) = some 1) (h1 : v.oneCell' = true)
    (h : wpList P ops Q rest (a.put o.dst undef) (w.setCell ⟨b, off, none⟩ v)) : wpList P ops Q (o :: rest) a w :=
  wpList_plain hgd fun _ hK => by
    unfold Oper.wp execOp
    simp only [ho, hx, hy, Instr.storeAt, Instr.sureAddr, Sem.run_bind, Sem.run_pure, Result.andThen_ok, run_storeVar1 w b off ty u v hc hf hi h1]
    exact hK _ _ h
end
theorem info_u8 : (Tryd.prog.info? 5).map (·.size) = some 1 := by kernel_rfl
/-- a byte of a block is stored -/
theorem wp_storeByte {ops : Array Oper} {rest : List Oper} {o : Oper} {a : Act} {w : World} {Q : Exit → Act → World → Prop} (hgd : o.guard = none) (x y : Operand) (ho : o.op = .store 5 x y)
    (b off : Nat) (v : Int) (hx : a.eval x = .pointer (some ⟨b, off, none⟩)) (hy : a.eval y = .int .u8 v) {T : TypeId} {n : Nat} {z : Nat → Int} (hB : Blk w b T n z) (hn : off < n)
    (h : ∀ w', Blk w' b T n (over z off 1 (fun _ => v)) → Only b w w' → wpList Tryd.prog ops Q rest (a.put o.dst undef) w') : wpList Tryd.prog ops Q (o :: rest) a w :=
  wp_store1 hgd 5 x y ho b off _ hx hy _ (by have := hB.seg off hn; rwa [Nat.zero_add] at this) (soft_of_heap hB off) info_u8 rfl (h _ (hB.setCell off v hn) (Only.setCell w ⟨b, off, none⟩ _))
end Go.Proofs.YtnbmmhoofilmfaaDoor

/- A drawn region that makes one new variable at whatever time: the first n operations in whatever order, each quiet in a class of worlds that grows, the making of a variable among them, and behind them all the others, one behind the other. No program in sight. -/
namespace Go.Proofs.YtnbmmhoofilmfaaDoor
open Go.RowKit
set_option linter.unusedVariables false

def Cl (R : World → Prop) : Prop := ∀ W W', R W → Below W.heap.size W W' → R W'
abbrev cls (S R : World → Prop) : World → Prop := fun w' => ∃ s : InW (fun W => S W ∧ R W), w' = s.W
/-- which operations are apart from the making, and wait -/
def newB (md : Region.Mode) (n : Nat) (ops : Array Oper) : Bool :=
  (List.range ops.size).all fun j => match ops[j]? with
    | none => true
    | some o => if j < n then (match o.guard with | none => true | some (g, _) => decide (g < n)) && ((ops[n]?).map fun al => al.apart ops o).getD false && (List.range n).all (fun i => i == j || ((ops[i]?).map fun oi => (match o.dst with | none => true | some d => oi.dst != some d)).getD true) && (match o.op with | .select _ _ => false | _ => true)
      else if j = n then true else (List.range j).all fun i => o.after.any fun e => Region.binds md e && e.on == i

section
variable {P : Program} {md : Region.Mode} {ops ops1 : Array Oper} {S : World → Prop} {A : Act}

def Fam (P : Program) (md : Region.Mode) (ops1 : Array Oper) (S : World → Prop) (A : Act) (fuel : Nat) (listed : Array Bool) (a : Act) : Prop :=
  ∀ R, Cl R → Nonempty (InW (fun W => S W ∧ R W)) → wpAnyQ P md ops1 (cls S R) (fun a' => a' = A) fuel listed a

variable {n d : Nat} {al : Oper} {l2 : List Oper} {T : TypeId} {cs : Array Value} {Q : Exit → Act → World → Prop} {base : Nat}

structure Setup (P : Program) (md : Region.Mode) (ops ops1 : Array Oper) (S : World → Prop) (A : Act) (n d : Nat) (al : Oper) (l2 : List Oper) (T : TypeId) (cs : Array Value) (Q : Exit → Act → World → Prop) (base : Nat) : Prop where
  nb : newB md n ops = true
  bar : barB md (n + 1) ops = true
  dn : downB md ops = true
  dn1 : downB md ops1 = true
  size1 : ops1.size = n
  same : ∀ i, i < n → ops1[i]? = ops[i]?
  atn : ops[n]? = some al
  gd : al.guard = none
  dst : al.dst = some d
  rest : ∀ j, l2[j]? = ops[n + 1 + j]?
  dsz : ∀ i o x, i < n → ops[i]? = some o → o.dst = some x → x < A.tmps.size
  cl : Cl S
  run : ∀ (a : Act) W, (execOp a.eval al).run P W = .ok (.value (.pointer (some ⟨W.heap.size, 0, none⟩))) (W.alloc (.cells cs T))
  grow : ∀ W, S W → base ≤ W.heap.size
  cont : ∀ w p, S w → w.heap[p]? = some (.cells cs T (0, 0)) → base ≤ p → wpList P ops Q l2 (A.put (some d) (.pointer (some ⟨p, 0, none⟩))) w

end
end Go.Proofs.YtnbmmhoofilmfaaDoor

/- strings.IndexByte, slots.MayName. -/
namespace Go.Proofs.YtnbmmhoofilmfaaDoor
open Go.RowKit
set_option linter.unusedVariables false

set_option maxHeartbeats 1000000 in
set_option maxRecDepth 100000 in
theorem lite_IndexByte (s : ByteArray) (c : Int) (w : World) :
    Calls Tryd.prog 185 #[.string s, .int .u8 c] w fun e w' => e = .returned (.int .i64 (Lib.indexByte s.data.toList c.toNat.toUInt8)) ∧ w' = w := by
  go_enter Tryd.func185, Tryd.ntmps185
  go_wp2
  rw [run_callFunc_extern Tryd.func186 (by kernel_rfl) (by kernel_rfl) (by kernel_rfl) (e := Extern.BytealgIndexByte.indexByte) (by kernel_rfl), Lib.run_indexByteString]
  simp only [Result.andThen]
  rw [Oper.upon_value]
  go_wp2
  go_ret
  exact ⟨rfl, rfl⟩
set_option maxHeartbeats 1000000 in
theorem strings_IndexByte (s : ByteArray) (c : Int) (w : World) :
    Calls Tryd.prog 184 #[.string s, .int .u8 c] w fun e w' => e = .returned (.int .i64 (Lib.indexByte s.data.toList c.toNat.toUInt8)) ∧ w' = w := by
  go_enter Tryd.func184, Tryd.ntmps184
  go_wp2_with fail
  refine (lite_IndexByte _ _ _).mono ?_
  rintro e w' ⟨rfl, rfl⟩
  go_wp2_with fail
  go_ret
  exact ⟨rfl, rfl⟩

/-- may a name be? -/
def mayL (l : List UInt8) : Bool := decide (1 ≤ l.length) && (decide (l.length ≤ 27) && (l != [46] && (l != [46, 46] && (!l.contains 47 && !l.contains 0))))
def mayB (s : ByteArray) : Bool := mayL s.data.toList
theorem indexByte_neg (l : List UInt8) (c : UInt8) : decide (Lib.indexByte l c < 0) = !l.contains c := by
  induction l with
  | nil => rfl
  | cons b l ih =>
    have hge := Lib.indexByte_ge l c
    unfold Lib.indexByte
    by_cases hb : (b == c) = true
    · have : b = c := by simpa using hb
      subst this; simp
    · have hb' : (b == c) = false := by simpa using hb
      have hcb : (c == b) = false := by rw [beq_eq_false_iff_ne] at hb' ⊢; exact fun h => hb' h.symm
      rw [List.contains_cons, hcb, Bool.false_or, ← ih, hb']
      simp only [Bool.false_eq_true, if_false]
      split
      · rename_i h1; have h2 := beq_iff_eq.1 h1; rw [h2]
      · rename_i h1
        have : Lib.indexByte l c ≠ -1 := by simpa using h1
        rw [decide_eq_false (by omega), decide_eq_false (by omega)]
set_option maxHeartbeats 1000000 in
theorem mayName_any (s : ByteArray) (hs : s.size ≤ 9223372036854775807) (w : World) : Calls Tryd.prog 183 #[.string s] w fun e w' => e = .returned (.bool (mayB s)) ∧ w = w' := by
  have hsz : s.size = s.toList.length := by rw [ByteArray.toList_eq]; rfl
  have hM : mayB s = (decide (1 ≤ s.toList.length) && (decide (s.toList.length ≤ 27) && (s.toList != [46] && (s.toList != [46, 46] && (!s.toList.contains 47 && !s.toList.contains 0))))) := by unfold mayB mayL; rw [ByteArray.toList_eq]
  have HM := Lib.hid hM
  have HZ := Lib.hid hsz
  clear hM hsz
  go_enter Tryd.func183, Tryd.ntmps183
  by_cases h1 : 1 ≤ s.size
  rotate_left
  · have d1 : (s.size : Int) < 1 := by omega
    have HN : Hid (mayB s = false) := by show _ = _; rw [HM.out, ← HZ.out, decide_eq_false h1]; rfl
    go_wp2_with fail
    go_ret
    exact ⟨by rw [HN.out]; rfl, rfl⟩
  have d1 : ¬ (s.size : Int) < 1 := by omega
  by_cases h2 : s.size ≤ 27
  rotate_left
  · have d2 : (27 : Int) < s.size := by omega
    have HN : Hid (mayB s = false) := by show _ = _; rw [HM.out, ← HZ.out, decide_eq_false h2]; simp
    go_wp2_with fail
    go_ret
    exact ⟨by rw [HN.out]; rfl, rfl⟩
  have d2 : ¬ (27 : Int) < s.size := by omega
  cases h3 : s.toList == [46] with
  | true =>
    have HN : Hid (mayB s = false) := by show _ = _; rw [HM.out, bne, h3]; simp
    go_wp2_with fail
    go_ret
    exact ⟨by rw [HN.out]; rfl, rfl⟩
  | false =>
  cases h4 : s.toList == [46, 46] with
  | true =>
    have HN : Hid (mayB s = false) := by show _ = _; rw [HM.out, bne, bne, h4]; simp
    go_wp2_with fail
    go_ret
    exact ⟨by rw [HN.out]; rfl, rfl⟩
  | false =>
  have HY : Hid (mayB s = (!s.data.toList.contains 47 && !s.data.toList.contains 0)) := by
    show _ = _
    rw [HM.out, ← HZ.out, bne, bne, h3, h4, decide_eq_true h1, decide_eq_true h2, ByteArray.toList_eq]; rfl
  go_wp2_with fail
  refine (strings_IndexByte _ _ _).mono ?_
  rintro e w' ⟨rfl, rfl⟩
  have e1 := indexByte_neg s.data.toList 47
  have e2 := indexByte_neg s.data.toList 0
  rw [show ((47 : Int).toNat.toUInt8) = 47 from rfl]
  generalize Lib.indexByte s.data.toList 47 = k1 at *
  cases hc : s.data.toList.contains 47 with
  | true =>
    rw [hc] at e1 HY
    have q : ¬ k1 < 0 := by simpa using e1
    clear e1 hc
    go_wp2_with fail
    go_ret
    exact ⟨by rw [HY.out]; rfl, rfl⟩
  | false =>
    rw [hc] at e1 HY
    have q : k1 < 0 := by simpa using e1
    clear e1 hc
    go_wp2_with fail
    refine (strings_IndexByte _ _ _).mono ?_
    rintro e w' ⟨rfl, rfl⟩
    rw [show ((0 : Int).toNat.toUInt8) = 0 from rfl]
    generalize Lib.indexByte s.data.toList 0 = k2 at *
    have E2 := Lib.hid e2
    clear e2
    go_wp2_with fail
    go_ret
    exact ⟨by rw [HY.out, ← E2.out]; rfl, rfl⟩
end Go.Proofs.YtnbmmhoofilmfaaDoor
