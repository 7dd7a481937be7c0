/- Texts of this claim, merged by a program (a claim may have 60 files): BlkWp, Region, Inv, Tell, InoG, Chain. -/
import Derived.Test.YtnbmmhoofilmfaaGreatDoorK03
import Derived.Test.YtnbmmhoofilmfaaGreatDoorK05
import Derived.Laws.Tables
import Derived.Laws.CopyOwn
import Derived.Deep.MidRow
import Derived.Deep.QuietTactic
import Derived.BigQuiet
import Derived.WalkKit
import Derived.Test.YtnbmmhoofilmfaaGreatDoorK04
import Derived.Test.YtnbmmhoofilmfaaGreatDoorK02
import Derived.Shelf.Abstract
import Derived.TacticsInMore
import Derived.LoopNIn
import Derived.LoopIn
import Derived.Lib.LazyBuf
/- Whole blocks loaded and stored, as laws for the walk, in this program's own numbers. -/
namespace Go.Proofs.YtnbmmhoofilmfaaGreatDoor
open Go.RowKit
set_option linter.unusedVariables false
abbrev bval (z : Nat → Int) : Value := .agg (Ks .u8 256 z).toArray
theorem zero_block (W : World) : (zeroValue 32).run Tryz.prog W = .ok (.agg (Ks .u8 256 (fun _ => 0)).toArray) W := by kernel_rfl
theorem info_block : (Tryz.prog.info? 32).map (·.size) = some 256 := by kernel_rfl
theorem info_block' (z : Nat → Int) : (Tryz.prog.info? 32).map (·.size) = some (Ks .u8 256 z).toArray.size := by rw [Ks_size]; exact info_block
theorem run_eql_block (z y : Nat → Int) (w : World) : (binOp .eql 32 (.agg (Ks .u8 256 z).toArray) (.agg (Ks .u8 256 y).toArray)).run Tryz.prog w = .ok (.bool (eqB z y 256)) w := by
  obtain ⟨i, hi, _⟩ := info_parts info8
  exact run_eql_ints w Tryz.underlying32 hi Tryz.underlying5 (by kernel_rfl) z y
theorem Blk.range {w : World} {g : Nat} {T : TypeId} {n : Nat} {z : Nat → Int} (h : Blk w g T n z) : w.rangeAt g 0 (Ks .u8 n z) := by
  intro j v hj
  rw [Nat.zero_add]
  exact cell_of_heap h (by simpa using hj)
theorem rangeAt_below {w w' : World} {b o : Nat} {cs : List Value} (h : w.rangeAt b o cs) {B : Nat} (hb : Below B w w') (hB : b < B) : w'.rangeAt b o cs := fun j v hv => (hb.cell (p := ⟨b, o + j, none⟩) hB).trans (h j v hv)
theorem Blk.setRow {w : World} {g : Nat} {T : TypeId} {n : Nat} {z : Nat → Int} (h : Blk w g T n z) (y : Nat → Int) : Blk (w.setRow g (Ks .u8 n y).toArray) g T n y := setRow_heap w g _ _ T (0, 0) h
theorem only_setRow (w : World) (g : Nat) (cs : Array Value) {old : Array Value} {t : TypeId} (h : w.heap[g]? = some (.cells old t (0, 0))) (hs : cs.size = old.size) : Only g w (w.setRow g cs) := by
  refine ⟨rfl, rfl, rfl, size_setRow _ _ _, fun k hk => setRow_other _ _ _ _ hk, fun a => ?_, fun c e fr hc => ?_⟩
  · by_cases ha : a.block = g
    · unfold World.frozen?
      rw [ha, h, setRow_heap w g _ cs t (0, 0) h]
    · exact World.frozen?_of_block (w := w) (setRow_other _ _ _ _ ha)
  · rw [h] at hc
    injection hc with hc
    injection hc with h1 h2 h3
    subst h1 h2 h3
    exact ⟨cs, hs, setRow_heap w g _ cs _ _ h⟩
theorem results_row_tmp {P : Program} {fn : Func} {p u : Tmp} {ty : TypeId} (h : fn.results = #[.cell p ty, .tmp u]) (tmps : Array Value) (w : World) (g : Nat) (t : TypeId) (cs : Array Value) (fr : Nat × Nat) (d : TypeDesc)
    (hp : tmps.getD p undef = .pointer (some ⟨g, 0, none⟩)) (hg : w.heap[g]? = some (.cells cs t fr))
    (hu : P.underlying ty = some d) (hd : (match d with | .struct _ | .array _ _ => true | _ => false) = true) (hi : (P.info? ty).map (·.size) = some cs.size) :
    (results fn tmps).run P w = .ok (.tuple #[.agg cs, tmps.getD u undef]) w := by
  have hp' : tmps[p]?.getD undef = .pointer (some ⟨g, 0, none⟩) := by simpa using hp
  simp [results, h, hp', asAddr, run_loadVar_row w g t ty cs fr d hg hu hd hi]

theorem wp_loadBlk {w : World} {ops : Array Oper} {rest : List Oper} {o : Oper} {a : Act} {Q : Exit → Act → World → Prop} (hgd : o.guard = none) (x : Operand) (ho : o.op = .load 32 x)
    (g : Nat) (z : Nat → Int) (hx : a.eval x = .pointer (some ⟨g, 0, none⟩)) (hB : Blk w g 32 256 z)
    (h : wpList Tryz.prog ops Q rest (a.put o.dst (bval z)) w) : wpList Tryz.prog ops Q (o :: rest) a w :=
  wpList_load_row hgd 32 x ho g hx 32 (Ks .u8 256 z).toArray (0, 0) _ hB Tryz.underlying32 rfl (info_block' _) h
theorem wp_storeBlk {w : World} {ops : Array Oper} {rest : List Oper} {o : Oper} {a : Act} {Q : Exit → Act → World → Prop} (hgd : o.guard = none) (x y : Operand) (ho : o.op = .store 32 x y)
    (g : Nat) (z old : Nat → Int) (hx : a.eval x = .pointer (some ⟨g, 0, none⟩)) (hy : a.eval y = bval z) (hB : Blk w g 32 256 old)
    (h : ∀ w', Blk w' g 32 256 z → Only g w w' → wpList Tryz.prog ops Q rest (a.put o.dst undef) w') : wpList Tryz.prog ops Q (o :: rest) a w :=
  wpList_store_row hgd 32 x y ho g (Ks .u8 256 z).toArray hx hy 32 _ hB (info_block' _) (by rw [Ks_size, Ks_size]) (Ks_one _ _ _) (h _ (hB.setRow z) (only_setRow w g _ hB (by rw [Ks_size, Ks_size])))
end Go.Proofs.YtnbmmhoofilmfaaGreatDoor

/- A region that draws its order, whose operations yield one value in every world of a class, and whose calls stay in the class: one walk. No program in sight. -/
namespace Go.Proofs.YtnbmmhoofilmfaaGreatDoor
open Go.RowKit
set_option linter.unusedVariables false
variable {P : Program}
/-- the worlds that meet S -/
structure InW (S : World → Prop) where
  W : World
  h : S W
def InS (S : World → Prop) (w' : World) : Prop := ∃ s : InW S, w' = s.W
theorem InS.out {S : World → Prop} {w : World} (h : InS S w) : S w := by obtain ⟨s, rfl⟩ := h; exact s.h
theorem wp_region_S (S : World → Prop) {id : Nat} {Q : Exit → Act → World → Prop} {a : Act} {w : World} {l : List Oper} (hm : P.follows .mixedOrders = true) (hB : Region.lexB .any l.toArray = true) (hS : S { w with drawn := w.drawn + 1 })
    (h : Nonempty (InW S) → wpQuiet P l.toArray (fun w' => ∃ s : InW S, w' = s.W) (fun a' => ∀ w', InS S w' → Q .normal a' w') l a) : (Code.region id l.toArray true).wp P Q a w :=
  wp_region_quiet (C := fun w' => ∃ s : InW S, w' = s.W) hm hB ⟨⟨_, hS⟩, rfl⟩ (h ⟨⟨_, hS⟩⟩)
/-- a call in such a region -/
theorem q_call {S : World → Prop} {f : FuncId} {args : Array Value} {v : Value} (s : InW S) (h : ∀ W, S W → Calls P f args W fun e w' => e = .returned v ∧ S w') : Calls P f args s.W fun e w' => e = .returned v ∧ ∃ s' : InW S, w' = s'.W :=
  (h s.W s.h).mono fun e w' hh => ⟨hh.1, ⟨w', hh.2⟩, rfl⟩
/-- a load of many cells in such a region -/
theorem q_load {S : World → Prop} {ops : Array Oper} {Q : Act → Prop} {a : Act} {o : Oper} {rest : List Oper} (hw : Region.wanted o (yielded ops a.tmps) = true) (ty : TypeId) (x : Operand) (ho : o.op = .load ty x)
    (b off : Nat) (hx : a.eval x = .pointer (some ⟨b, off, none⟩)) (cs : List Value) (d : TypeDesc) (hS : ∀ w, S w → w.rangeAt b off cs)
    (hu : P.underlying ty = some d) (hd : d.isRow = true) (hi : (P.info? ty).map (·.size) = some cs.length)
    (h : wpQuiet P ops (fun w' => ∃ s : InW S, w' = s.W) Q rest (a.put o.dst (.agg cs.toArray))) : wpQuiet P ops (fun w' => ∃ s : InW S, w' = s.W) Q (o :: rest) a := by
  refine wpQuiet_step fun K hK => ?_
  rw [if_pos hw]
  refine ⟨.agg cs.toArray, fun w hw' => ?_, hK _ h⟩
  obtain ⟨s, rfl⟩ := hw'
  unfold Oper.quietAt execOp
  simp only [ho, hx, Instr.loadAt, Instr.sureAddr, Sem.run_bind, Sem.run_pure, Result.andThen_ok, run_loadVar_mid s.W b off ty cs d (hS s.W s.h) hu hd hi]
  exact ⟨rfl, rfl⟩
/-- the frame written out -/
theorem wpQuiet_frame {ops : Array Oper} {C : World → Prop} {Q : Act → Prop} {l : List Oper} {a a' : Act} (e : a = a') (h : wpQuiet P ops C Q l a') : wpQuiet P ops C Q l a := e ▸ h
end Go.Proofs.YtnbmmhoofilmfaaGreatDoor

/- A region that draws its order, walked by what holds between its operations, whichever have come up. And 'c, d := b, b' for blocks. -/
namespace Go.Proofs.YtnbmmhoofilmfaaGreatDoor
open Go.RowKit
set_option linter.unusedVariables false

/-- each operation waits for earlier ones alone -/
def downB (md : Region.Mode) (ops : Array Oper) : Bool :=
  (List.range ops.size).all fun i => ((ops[i]?).map fun o => o.after.all fun e => !Region.binds md e || decide (e.on < i)).getD true
/-- all that it waits for has come up -/
def upB (md : Region.Mode) (o : Oper) (l : Nat → Bool) : Bool := o.after.all fun e => !Region.binds md e || l e.on

section
variable {P : Program} {md : Region.Mode} {ops : Array Oper}
theorem downB_spec (h : downB md ops = true) {i : Nat} {o : Oper} (hi : ops[i]? = some o) {e : Edge} (he : e ∈ o.after) (hb : Region.binds md e = true) : e.on < i := by
  unfold downB at h
  rw [List.all_eq_true] at h
  have h1 := h i (List.mem_range.2 (Array.getElem?_eq_some_iff.1 hi).1)
  rw [hi] at h1
  simp only [Option.map_some, Option.getD_some] at h1
  rw [Array.all_eq_true'] at h1
  have h2 := h1 e he
  rw [hb] at h2
  simpa using h2
theorem ready_nil (h : downB md ops = true) {listed : Array Bool} (hs : listed.size = ops.size) (hr : Region.ready md ops listed = []) : ∀ i, i < ops.size → listed.getD i false = true := by
  intro i
  induction i using Nat.strongRecOn with
  | _ i ih =>
    intro hi
    cases hl : listed.getD i false with
    | true => rfl
    | false =>
      exfalso
      have : i ∈ Region.ready md ops listed := by
        refine mem_ready.2 ⟨?_, ops[i], Array.getElem?_eq_getElem hi, fun e he hb => ?_⟩
        · rw [Array.getD_eq_getD_getElem?, Array.getElem?_eq_getElem (by omega)] at hl ⊢; simpa using hl
        · have := downB_spec h (Array.getElem?_eq_getElem hi) he hb
          exact ih _ this (by omega)
      rw [hr] at this
      cases this

/-- what is to be shown of each operation -/
def StepsI (P : Program) (md : Region.Mode) (ops : Array Oper) (Q : Exit → Act → World → Prop) (I : (Nat → Bool) → Act → World → Prop) : Nat → List Oper → Prop
  | _, [] => True
  | n, o :: rest => (∀ l a w, l n = false → upB md o l = true → I l a w → wpOp P ops Q n (I (fun j => j == n || l j)) a w) ∧ StepsI P md ops Q I (n + 1) rest
theorem StepsI.get {Q : Exit → Act → World → Prop} {I : (Nat → Bool) → Act → World → Prop} : ∀ (L : List Oper) (n i : Nat) (o : Oper), StepsI P md ops Q I n L → L[i]? = some o →
    ∀ l a w, l (n + i) = false → upB md o l = true → I l a w → wpOp P ops Q (n + i) (I (fun j => j == (n + i) || l j)) a w
  | [], _, _, _, _, h => by cases h
  | o' :: L, n, 0, o, h, hi => by cases hi; exact h.1
  | o' :: L, n, i + 1, o, h, hi => by
    have := StepsI.get L (n + 1) i o h.2 (by simpa using hi)
    rw [show n + 1 + i = n + (i + 1) by omega] at this
    exact this

theorem wpAny_inv {Q : Exit → Act → World → Prop} {I : (Nat → Bool) → Act → World → Prop} (hd : downB md ops = true) (hst : StepsI P md ops Q I 0 ops.toList)
    (hI : ∀ l l' a w, (∀ i, i < ops.size → l i = l' i) → I l a w → I l' a w)
    (hend : ∀ a w, I (fun _ => true) a w → Q .normal a w) : ∀ (fuel : Nat) (listed : Array Bool) (a : Act) (w : World), listed.size = ops.size → (listed.toList.filter (fun b => !b)).length = fuel →
      I (fun j => listed.getD j false) a w → wpAny P md ops Q fuel listed a w := by
  have fin : ∀ (listed : Array Bool) (a : Act) (w : World), listed.size = ops.size → Region.ready md ops listed = [] → I (fun j => listed.getD j false) a w → Q .normal a w := fun listed a w hs hr h =>
    hend a w (hI _ _ a w (fun i hi => ready_nil hd hs hr i hi) h)
  intro fuel
  induction fuel with
  | zero =>
    intro listed a w hs hc h
    have hall : ∀ b ∈ listed.toList, b = true := by
      intro b hb
      cases b with
      | true => rfl
      | false =>
        have : false ∈ listed.toList.filter (fun b => !b) := List.mem_filter.2 ⟨hb, rfl⟩
        rw [List.length_eq_zero_iff.1 hc] at this
        cases this
    have hr : Region.ready md ops listed = [] := by
      cases hr : Region.ready md ops listed with
      | nil => rfl
      | cons i r =>
        have hi : i ∈ Region.ready md ops listed := by rw [hr]; simp
        obtain ⟨h1, o, ho, _⟩ := mem_ready.1 hi
        have hlt : i < listed.size := by rw [hs]; exact (Array.getElem?_eq_some_iff.1 ho).1
        rw [Array.getD_eq_getD_getElem?, Array.getElem?_eq_getElem hlt] at h1
        have := hall listed[i] (by simp)
        simp [this] at h1
    exact ⟨hr, fin listed a w hs hr h⟩
  | succ fuel ih =>
    intro listed a w hs hc h
    refine ⟨fun hr => fin listed a w hs hr h, fun i hi => ?_⟩
    obtain ⟨h1, o, ho, hall⟩ := mem_ready.1 hi
    have hlt : i < listed.size := by rw [hs]; exact (Array.getElem?_eq_some_iff.1 ho).1
    have hli : listed[i] = false := by rw [Array.getD_eq_getD_getElem?, Array.getElem?_eq_getElem hlt] at h1; simpa using h1
    have hstep := StepsI.get ops.toList 0 i o hst (by simpa using ho) (fun j => listed.getD j false) a w (by rw [Nat.zero_add, Array.getD_eq_getD_getElem?, Array.getElem?_eq_getElem hlt]; simpa using hli)
      (by
        unfold upB
        rw [Array.all_eq_true']
        intro e he
        cases hb : Region.binds md e with
        | false => rfl
        | true => simpa using hall e he hb) h
    rw [Nat.zero_add] at hstep
    refine wpOp_mono (fun a' w' h' => ?_) hstep
    refine ih _ a' w' (by simpa using hs) ?_ (hI _ _ a' w' (fun j hj => ?_) h')
    · have key : ∀ (L : List Bool) (i : Nat) (hi : i < L.length), L[i] = false → ((L.set i true).filter (fun b => !b)).length + 1 = (L.filter (fun b => !b)).length := by
        intro L
        induction L with
        | nil => intro i hi; simp at hi
        | cons b L ihL =>
          intro i hi hb
          cases i with
          | zero => simp at hb; subst hb; simp
          | succ i =>
            have := ihL i (by simpa using hi) (by simpa using hb)
            cases b <;> simp <;> omega
      have := key listed.toList i (by simpa using hlt) (by simpa using hli)
      rw [hc] at this
      have e : (listed.setIfInBounds i true).toList = listed.toList.set i true := by simp
      rw [e]
      omega
    · by_cases hji : j = i
      · subst hji
        simp [Array.getD_eq_getD_getElem?, hlt]
      · simp only [Array.getD_eq_getD_getElem?, Array.getElem?_setIfInBounds_ne (Ne.symm hji), show (j == i) = false by simpa using hji, Bool.false_or]

/-- **A drawn region by what holds between its operations.** I says what holds of the frame and the world by which operations have come up. -/
theorem wp_region_inv (I : (Nat → Bool) → Act → World → Prop) {id : Nat} {Q : Exit → Act → World → Prop} {a : Act} {w : World} {L : List Oper} (hm : P.follows .mixedOrders = true) (hd : downB .any L.toArray = true)
    (hI : ∀ l l' a w, (∀ i, i < L.length → l i = l' i) → I l a w → I l' a w) (h0 : I (fun _ => false) a { w with drawn := w.drawn + 1 }) (hst : StepsI P .any L.toArray Q I 0 L)
    (hend : ∀ a w, I (fun _ => true) a w → Q .normal a w) : (Code.region id L.toArray true).wp P Q a w := by
  refine wp_region_any hm (wpAny_inv (I := I) hd (by simpa using hst) (by simpa using hI) hend _ _ a _ (by simp) (by simp) (hI _ _ _ _ (fun i hi => ?_) h0))
  simp [Array.getD_eq_getD_getElem?, hi]
end
end Go.Proofs.YtnbmmhoofilmfaaGreatDoor

/- Contracts of slices.Clone at bytes, of nums.Tell and of the iterator that it hands back. -/
namespace Go.Proofs.YtnbmmhoofilmfaaGreatDoor
open Go.RowKit Go.Shelf
set_option linter.unusedVariables false
attribute [local go_sem] Oper.semAt_some

theorem cell_boxed (w : World) (v : Value) (t : TypeId) : (w.alloc (.cells #[v] t)).cell? ⟨w.heap.size, 0, none⟩ = some v := by
  simp only [World.cell?, heap_alloc_new]; rfl

theorem clone_any (a : Option Addr) (len cap : Nat) (z : Nat → Int) (w : World) (hr : Row w a len z) (hc : a = none → cap = 0 ∧ len = 0) (hl : len ≤ 140737488355328) (base : Nat) (hb : base ≤ w.heap.size) :
    Calls Tryz.prog 112 #[.slice a len cap] w fun e w' => ∃ sa cap', e = .returned (.slice sa len cap') ∧ Mine w' base 5 sa len cap' z ∧ Below w.heap.size w w' := by
  have hq := fun w => run_eql_slice_nil (P := Tryz.prog) w 128 5 a len cap Tryz.underlying128
  have hcz : Hid (cat (fun _ => 0) 0 z = z) := by show _ = _; funext i; simp [cat]
  cases a with
  | none =>
    obtain ⟨rfl, rfl⟩ := hc rfl
    go_enter Tryz.func112, Tryz.ntmps112
    go_wp2_with fail
    go_ret
    exact ⟨none, 0, rfl, Mine.nil _ _ _ _, Below.refl _ _⟩
  | some x =>
    go_enter Tryz.func112, Tryz.ntmps112
    go_wp2_with (at_builtin; refine wp_appendB rfl (.tmp 5) (.tmp 6) rfl base _ 0 0 (fun _ => 0) rfl (Mine.made w base _ _ hb) (some x) len cap z rfl (fun h => by cases h) (hr.alloc _) (by omega) (by simp; omega) ?_)
    intro sa cap' w1 hm hg _
    rw [hcz.out] at hm
    go_wp2_with fail
    go_ret
    exact ⟨sa, cap', rfl, hm, ((Below.refl _ _).alloc (Nat.le_refl _) _).grown hg (by simp) (fun k hk => by cases hk; exact Nat.le_refl _)⟩

/-- what the iterator of Tell wants of memory -/
def TellNeed (B : Nat) (sa : Option Addr) (len cap : Nat) (z : Nat → Int) : Nat → World → Prop := fun _ W => W.cell? ⟨B, 0, none⟩ = some (.slice sa len cap) ∧ Row W sa len z
def tellEnc (z : Nat → Int) (k : Nat) : Array Value := #[.int .i64 (4 * (k : Int)), .int .u32 (g32 z (4 * k))]

theorem yield_not_nil (l : Nat) (W : World) : (binOp .eql 196 (.func (.yield l) #[] #[]) .nilFunc).run Tryz.prog W = .ok (.bool false) W := by kernel_rfl

set_option maxRecDepth 100000 in
set_option maxHeartbeats 2000000 in
theorem tell_iter (n : Nat) (hn : 1 ≤ n) (B : Nat) (sa : Option Addr) (len cap : Nat) (z : Nat → Int) (hz : Byt z) (hl : (len : Int) ≤ 140737488355328) :
    IterIx Fence.wide n Tryz.prog 113 #[.pointer (some ⟨B, 0, none⟩)] (tellEnc z) (len / 4) (fun _ => False) (TellNeed B sa len cap z) := by
  intro l J Jx W _ _ hY h0 hN
  have HY := Lib.hid hY
  clear hY
  have hnil := fun W => yield_not_nil l W
  refine callsIn_of_wp Tryz.func113 rfl trivial ?_ rfl
  simp only [Tryz.ntmps113, List.size_toArray, List.length_cons, List.length_nil, Nat.reduceAdd, Nat.reduceSub, Array.replicate_succ, Array.replicate_zero, List.push_toArray, List.append_toArray, List.nil_append, List.cons_append]
  gi_wp2
  gi_loopw [3] (fun i wr => ∃ k : Nat, k ≤ len / 4 ∧ i = .int .i64 (4 * (k : Int)) ∧ J k wr ∧ TellNeed B sa len cap z k wr) (fun i _ => len + 4 - (intOf i).toNat)
  case atStart => exact ⟨0, Nat.zero_le _, rfl, h0, hN⟩
  case round =>
    obtain ⟨k, hk, rfl, hJ, hnd⟩ := hrel
    have hcB := hnd.1
    have hrow := hnd.2
    have HND := Lib.hid hnd
    clear hnd
    by_cases hlt : k < len / 4
    · have f4 : Hid (fits 4 len (4 * (k : Int)) = true) := fits_yes ⟨by omega, by omega⟩
      have e4 : Hid ((4 * (k : Int)).toNat = 4 * k) := by show _ = _; omega
      obtain ⟨fn, tmps, assign, body, hy, hR⟩ := HY.out k wr hlt hJ HND.out
      dsimp only [tellEnc] at hy
      have HHY := Lib.hid hy
      clear hy
      gi_wp2_with (refine ⟨trivial, ?_⟩; gi_at_call 59; refine (callsIn_wide.2 (get32_any _ _ _ _ z _ (by omega) (by exact hrow) hz)).mono ?_; rintro e w' ⟨rfl, rfl⟩; rw [o32, f4.out, if_pos rfl, e4.out]; have hy := HHY.out)
      refine hR.mono ?_
      rintro e W3 (⟨rfl, hJ3, hN3⟩ | ⟨rfl, hJx3⟩)
      · gi_wp2
        go_roundw
        case rel => exact ⟨k + 1, by omega, int_eq (by omega), hJ3, hN3⟩
        case measure => simp [intOf]; omega
      · gi_wp2
        refine bodyPost_ret (results_none rfl _ _ _) rfl ?_
        exact ⟨⟨_, rfl⟩, .inr ⟨k, hlt, hJx3⟩⟩
    · have HK : Hid (k = len / 4) := by show _ = _; omega
      have f4 : Hid (fits 4 len (4 * (k : Int)) = false) := fits_no (by omega)
      gi_wp2_with (refine ⟨trivial, ?_⟩; gi_at_call 59; refine (callsIn_wide.2 (get32_any _ _ _ _ z _ (by omega) (by exact hrow) hz)).mono ?_; rintro e w' ⟨rfl, rfl⟩; rw [o32, f4.out, if_neg (by decide)])
      refine ⟨fun _ h => (by cases h), ?_⟩
      gi_wp2
      refine bodyPost_ret (results_none rfl _ _ _) rfl ?_
      exact ⟨⟨_, rfl⟩, .inl (by rw [← HK.out]; exact hJ)⟩

theorem tell_any (a : Option Addr) (len cap : Nat) (z : Nat → Int) (w : World) (hr : Row w a len z) (hc : a = none → cap = 0 ∧ len = 0) (hl : len ≤ 140737488355328) :
    Calls Tryz.prog 60 #[.slice a len cap] w fun e w' => ∃ B sa cap', e = .returned (.func (.func 113) #[] #[.pointer (some ⟨B, 0, none⟩)]) ∧ TellNeed B sa len cap' z 0 w' ∧ Below w.heap.size w w'
      ∧ w.heap.size ≤ B ∧ B < w'.heap.size ∧ (∀ x, sa = some x → w.heap.size ≤ x.block ∧ x.block < w'.heap.size) := by
  go_enter Tryz.func60, Tryz.ntmps60
  go_wp2_with fail
  refine (clone_any a len cap z w hr hc hl w.heap.size (Nat.le_refl _)).mono ?_
  rintro e w1 ⟨sa, cap', rfl, hm, hb⟩
  have hsz := hb.size
  go_wp2_with fail
  go_ret
  exact ⟨w1.heap.size, sa, cap', rfl, ⟨cell_boxed _ _ _, hm.row.alloc _⟩, hb.alloc hsz _, hsz, by simp, fun x hx => by have := hm.le x hx; simp; omega⟩
end Go.Proofs.YtnbmmhoofilmfaaGreatDoor

/- An inode read off bytes; an inode in memory, field by field. -/
namespace Go.Proofs.YtnbmmhoofilmfaaGreatDoor
open Go.RowKit Go.Shelf
set_option linter.unusedVariables false

def Ino.nil : Ino := ⟨0, 0, 0, 0, fun _ => 0, 0⟩
/-- the inode that the bytes from i on say -/
def inoOf (z : Nat → Int) (i : Nat) : Ino := ⟨z i, g16 z (i + 2), g32 z (i + 4), g32 z (i + 8), fun k => g32 z (i + 12 + 4 * k), g32 z (i + 56)⟩
/-- .. its first k pointers alone, and no next -/
def inoAt' (z : Nat → Int) (i k : Nat) : Ino := ⟨z i, g16 z (i + 2), g32 z (i + 4), g32 z (i + 8), fun j => if j < k then g32 z (i + 12 + 4 * j) else 0, 0⟩
def getOkB (z : Nat → Int) (i : Nat) : Bool := z (i + 1) == 0 && (allZ (fun k => z (i + 60 + k)) 4 && decide (inoOf z i).May)
def getErr (z : Nat → Int) (a : Int) : Int := if placeB a then (if getOkB z a.toNat then 0 else 70) else 2
def getIno (z : Nat → Int) (a : Int) : Ino := if placeB a then (if getOkB z a.toNat then inoOf z a.toNat else .nil) else .nil

theorem inoOf_ok {z : Nat → Int} (hz : Byt z) (i : Nat) : (inoOf z i).Ok := by
  have h2 := g16_bd hz (i + 2)
  have h4 := g32_bd hz (i + 4)
  have h8 := g32_bd hz (i + 8)
  have h56 := g32_bd hz (i + 56)
  have h0 := hz i
  refine ⟨by simp only [inoOf]; omega, by simp only [inoOf]; omega, by simp only [inoOf]; omega, by simp only [inoOf]; omega, fun k => by have := g32_bd hz (i + 12 + 4 * k); simp only [inoOf]; omega, by simp only [inoOf]; omega⟩
theorem nil_ok : Ino.nil.Ok := by
  refine ⟨by simp [Ino.nil], by simp [Ino.nil], by simp [Ino.nil], by simp [Ino.nil], fun k => by simp [Ino.nil], by simp [Ino.nil]⟩
theorem getIno_ok {z : Nat → Int} (hz : Byt z) (a : Int) : (getIno z a).Ok := by
  unfold getIno
  split
  · split
    · exact inoOf_ok hz _
    · exact nil_ok
  · exact nil_ok
theorem heap_setCell_at {w : World} {g : Nat} {cs : Array Value} {T : TypeId} {fr : Nat × Nat} (h : w.heap[g]? = some (.cells cs T fr)) (j : Nat) (v : Value) : (w.setCell ⟨g, j, none⟩ v).heap[g]? = some (.cells (cs.setIfInBounds j v) T fr) := by
  have hlt := (Array.getElem?_eq_some_iff.1 h).1
  have hv := (Array.getElem?_eq_some_iff.1 h).2
  rw [Array.getElem?_eq_getElem (by simpa [World.setCell] using hlt)]
  simp only [World.setCell, Array.getElem_modify, hv, if_true]
  rfl
theorem InoAt.set {w : World} {g : Nat} {T : TypeId} {x y : Ino} (h : InoAt w g T x) (j : Nat) (v : Value) (hy : x.arr.setIfInBounds j v = y.arr) : InoAt (w.setCell ⟨g, j, none⟩ v) g T y := by
  have := heap_setCell_at h j v
  rw [hy] at this
  exact this
theorem arr_ptr (z : Nat → Int) (i k : Nat) (hk : k < 11) : (inoAt' z i k).arr.setIfInBounds (4 + k) (.int .u32 (g32 z (i + 12 + 4 * k))) = (inoAt' z i (k + 1)).arr := by
  obtain rfl | rfl | rfl | rfl | rfl | rfl | rfl | rfl | rfl | rfl | rfl : k = 0 ∨ k = 1 ∨ k = 2 ∨ k = 3 ∨ k = 4 ∨ k = 5 ∨ k = 6 ∨ k = 7 ∨ k = 8 ∨ k = 9 ∨ k = 10 := by omega
  all_goals rfl
theorem InoAt.new (w : World) (x : Ino) : InoAt (w.alloc (.cells x.arr 63)) w.heap.size 63 x := heap_alloc_new w _
theorem InoAt.alloc {w : World} {g : Nat} {T : TypeId} {x : Ino} (h : InoAt w g T x) (o : Obj) : InoAt (w.alloc o) g T x := heap_alloc_keep h o
theorem arr_one (x : Ino) : x.arr.all (·.oneCell') = true := by simp [Ino.arr, Value.oneCell']
theorem info_ino (x : Ino) : (Tryz.prog.info? 63).map (·.size) = some x.arr.size := by kernel_rfl
theorem wp_loadIno {w : World} {ops : Array Oper} {rest : List Oper} {o : Oper} {a : Act} {Q : Exit → Act → World → Prop} (hgd : o.guard = none) (p : Operand) (ho : o.op = .load 63 p)
    (g : Nat) (x : Ino) (hx : a.eval p = .pointer (some ⟨g, 0, none⟩)) (hI : InoAt w g 63 x)
    (h : wpList Tryz.prog ops Q rest (a.put o.dst x.val) w) : wpList Tryz.prog ops Q (o :: rest) a w :=
  wpList_load_row hgd 63 p ho g hx 63 x.arr (0, 0) _ hI Tryz.underlying63 rfl (info_ino x) h
theorem wp_storeIno {w : World} {ops : Array Oper} {rest : List Oper} {o : Oper} {a : Act} {Q : Exit → Act → World → Prop} (hgd : o.guard = none) (p q : Operand) (ho : o.op = .store 63 p q)
    (g : Nat) (x old : Ino) (hx : a.eval p = .pointer (some ⟨g, 0, none⟩)) (hy : a.eval q = x.val) (hI : InoAt w g 63 old)
    (h : ∀ w', InoAt w' g 63 x → Only g w w' → wpList Tryz.prog ops Q rest (a.put o.dst undef) w') : wpList Tryz.prog ops Q (o :: rest) a w :=
  wpList_store_row hgd 63 p q ho g x.arr hx hy 63 _ hI (info_ino x) rfl (arr_one x) (h _ (setRow_heap w g _ x.arr _ _ hI) (only_setRow w g _ hI rfl))
theorem zero_ino (W : World) : (zeroValue 63).run Tryz.prog W = .ok (.agg Ino.nil.arr) W := by kernel_rfl
theorem results_ino {fn : Func} {p u : Tmp} (h : fn.results = #[.cell p 63, .tmp u]) (tmps : Array Value) (w : World) (g : Nat) (x : Ino)
    (hp : tmps.getD p undef = .pointer (some ⟨g, 0, none⟩)) (hg : InoAt w g 63 x) : (results fn tmps).run Tryz.prog w = .ok (.tuple #[x.val, tmps.getD u undef]) w :=
  results_row_tmp h tmps w g _ x.arr (0, 0) _ hp hg Tryz.underlying63 rfl (info_ino x)
end Go.Proofs.YtnbmmhoofilmfaaGreatDoor

/- A region that draws its order and holds calls that write, each call bound to wait for the one ahead of it: one walk of the lexical order, the worlds' class stepping on at each call (C 0, C 1, ..). Every other operation yields one value in every world of whatever class. No program in sight. -/
namespace Go.Proofs.YtnbmmhoofilmfaaGreatDoor
open Go.RowKit
set_option linter.unusedVariables false

def isCall (o : Oper) : Bool := match o.op with | .call _ => true | _ => false
def plainOp (o : Oper) : Bool := match o.op with | .move _ | .assign _ | .pick _ _ _ | .build _ _ | .load _ _ | .binOp _ _ _ _ _ | .unOp _ _ _ | .convert _ _ _ | .fieldAddr _ _ _ | .field _ _ _ | .indexAddr _ _ _ | .index _ _ _ | .extract _ _ | .slice _ _ _ _ _ => true | _ => false
section
variable {P : Program} {ops : Array Oper} {md : Region.Mode} {C : Nat → World → Prop}

/-- what the operation yields in the world w, the world left as it is -/
def stillUpon (w : World) (v : Value) : Result Next → Prop
  | .ok (.value u) w' => w' = w ∧ u = v
  | .ok .skip w' => w' = w ∧ v = undef
  | _ => False
def entersUpon (P : Program) (w : World) (R : Ending → World → Prop) : Result Next → Prop
  | .ok (.enter f args) w' => w' = w ∧ Calls P f args w R
  | _ => False
def stillIn (P : Program) (C : Nat → World → Prop) (o : Oper) (a : Act) (v : Value) : Prop := ∀ w, (∃ k, C k w) → stillUpon w v ((execOp a.eval o).run P w)
def callIn (P : Program) (C : Nat → World → Prop) (k : Nat) (o : Oper) (a : Act) (v : Value) : Prop := ∀ w, C k w → entersUpon P w (fun e w' => e = .returned v ∧ C (k + 1) w') ((execOp a.eval o).run P w)

/-- in state a, at step k, operation o leaves v, and step k' -/
def LY (P : Program) (ops : Array Oper) (C : Nat → World → Prop) (o : Oper) (v : Value) (a : Act) (k k' : Nat) : Prop :=
  (Region.wanted o (yielded ops a.tmps) = true ∧ ((isCall o = true ∧ callIn P C k o a v ∧ k' = k + 1) ∨ (isCall o = false ∧ stillIn P C o a v ∧ k' = k))) ∨
  (Region.wanted o (yielded ops a.tmps) = false ∧ v = undef ∧ k' = k)

def linOp (P : Program) (ops : Array Oper) (C : Nat → World → Prop) (i : Nat) (K : Nat → Act → Prop) (k : Nat) (a : Act) : Prop :=
  match ops[i]? with
  | none => K k a
  | some o => ∃ v k', LY P ops C o v a k k' ∧ K k' (a.put o.dst v)

def wpAnyL (P : Program) (md : Region.Mode) (ops : Array Oper) (C : Nat → World → Prop) (Q : Nat → Act → Prop) : Nat → Array Bool → Nat → Act → Prop
  | 0, listed, k, a => Region.ready md ops listed = [] ∧ Q k a
  | fuel + 1, listed, k, a => (Region.ready md ops listed = [] → Q k a) ∧ ∀ i ∈ Region.ready md ops listed, linOp P ops C i (wpAnyL P md ops C Q fuel (listed.setIfInBounds i true)) k a

theorem LY.linOp {i k k' : Nat} {o : Oper} {v : Value} {a : Act} (hi : ops[i]? = some o) (hy : LY P ops C o v a k k') {K : Nat → Act → Prop} (h : K k' (a.put o.dst v)) : linOp P ops C i K k a := by
  unfold Proofs.YtnbmmhoofilmfaaGreatDoor.linOp
  simp only [hi]
  exact ⟨v, k', hy, h⟩

/-- an operation that is no call does not look at the step -/
theorem LY.step {o : Oper} {v : Value} {a : Act} {k k' : Nat} (hy : LY P ops C o v a k k') (hc : isCall o = false) : k' = k ∧ ∀ m, LY P ops C o v a m m := by
  rcases hy with ⟨hw, ⟨h, _⟩ | ⟨h, hs, rfl⟩⟩ | ⟨hw, rfl, rfl⟩
  · rw [hc] at h; cases h
  · exact ⟨rfl, fun m => .inl ⟨hw, .inr ⟨h, hs, rfl⟩⟩⟩
  · exact ⟨rfl, fun m => .inr ⟨hw, rfl, rfl⟩⟩

/-- the lexical walk -/
def wpLin (P : Program) (ops : Array Oper) (C : Nat → World → Prop) (Q : Nat → Act → Prop) : List Oper → Nat → Act → Prop
  | [], k, a => Q k a
  | o :: rest, k, a => ∃ v k', LY P ops C o v a k k' ∧ wpLin P ops C Q rest k' (a.put o.dst v)

/-! ### Steps of the walk -/
end
end Go.Proofs.YtnbmmhoofilmfaaGreatDoor
