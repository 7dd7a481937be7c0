/- A region that draws its order, walked by what holds between its operations, whichever have come up. And 'c, d := b, b' for blocks. -/
import Derived.Test.YtbbcckopkbiojaaBlkWp
import Derived.Test.YtbbcckopkbiojaaRegion
namespace Go.Proofs.Ytbbcckopkbiojaa
open Go.RowKit
set_option linter.unusedVariables false

/-- each operation waits for earlier ones alone -/
def downB (md : Region.Mode) (ops : Array Oper) : Bool :=
  (List.range ops.size).all fun i => ((ops[i]?).map fun o => o.after.all fun e => !Region.binds md e || decide (e.on < i)).getD true
/-- all that it waits for has come up -/
def upB (md : Region.Mode) (o : Oper) (l : Nat → Bool) : Bool := o.after.all fun e => !Region.binds md e || l e.on

section
variable {P : Program} {md : Region.Mode} {ops : Array Oper}
theorem downB_spec (h : downB md ops = true) {i : Nat} {o : Oper} (hi : ops[i]? = some o) {e : Edge} (he : e ∈ o.after) (hb : Region.binds md e = true) : e.on < i := by
  unfold downB at h
  rw [List.all_eq_true] at h
  have h1 := h i (List.mem_range.2 (Array.getElem?_eq_some_iff.1 hi).1)
  rw [hi] at h1
  simp only [Option.map_some, Option.getD_some] at h1
  rw [Array.all_eq_true'] at h1
  have h2 := h1 e he
  rw [hb] at h2
  simpa using h2
theorem ready_nil (h : downB md ops = true) {listed : Array Bool} (hs : listed.size = ops.size) (hr : Region.ready md ops listed = []) : ∀ i, i < ops.size → listed.getD i false = true := by
  intro i
  induction i using Nat.strongRecOn with
  | _ i ih =>
    intro hi
    cases hl : listed.getD i false with
    | true => rfl
    | false =>
      exfalso
      have : i ∈ Region.ready md ops listed := by
        refine mem_ready.2 ⟨?_, ops[i], Array.getElem?_eq_getElem hi, fun e he hb => ?_⟩
        · rw [Array.getD_eq_getD_getElem?, Array.getElem?_eq_getElem (by omega)] at hl ⊢; simpa using hl
        · have := downB_spec h (Array.getElem?_eq_getElem hi) he hb
          exact ih _ this (by omega)
      rw [hr] at this
      cases this

/-- what is to be shown of each operation -/
def StepsI (P : Program) (md : Region.Mode) (ops : Array Oper) (Q : Exit → Act → World → Prop) (I : (Nat → Bool) → Act → World → Prop) : Nat → List Oper → Prop
  | _, [] => True
  | n, o :: rest => (∀ l a w, l n = false → upB md o l = true → I l a w → wpOp P ops Q n (I (fun j => j == n || l j)) a w) ∧ StepsI P md ops Q I (n + 1) rest
theorem StepsI.get {Q : Exit → Act → World → Prop} {I : (Nat → Bool) → Act → World → Prop} : ∀ (L : List Oper) (n i : Nat) (o : Oper), StepsI P md ops Q I n L → L[i]? = some o →
    ∀ l a w, l (n + i) = false → upB md o l = true → I l a w → wpOp P ops Q (n + i) (I (fun j => j == (n + i) || l j)) a w
  | [], _, _, _, _, h => by cases h
  | o' :: L, n, 0, o, h, hi => by cases hi; exact h.1
  | o' :: L, n, i + 1, o, h, hi => by
    have := StepsI.get L (n + 1) i o h.2 (by simpa using hi)
    rw [show n + 1 + i = n + (i + 1) by omega] at this
    exact this

theorem wpAny_inv {Q : Exit → Act → World → Prop} {I : (Nat → Bool) → Act → World → Prop} (hd : downB md ops = true) (hst : StepsI P md ops Q I 0 ops.toList)
    (hI : ∀ l l' a w, (∀ i, i < ops.size → l i = l' i) → I l a w → I l' a w)
    (hend : ∀ a w, I (fun _ => true) a w → Q .normal a w) : ∀ (fuel : Nat) (listed : Array Bool) (a : Act) (w : World), listed.size = ops.size → (listed.toList.filter (fun b => !b)).length = fuel →
      I (fun j => listed.getD j false) a w → wpAny P md ops Q fuel listed a w := by
  have fin : ∀ (listed : Array Bool) (a : Act) (w : World), listed.size = ops.size → Region.ready md ops listed = [] → I (fun j => listed.getD j false) a w → Q .normal a w := fun listed a w hs hr h =>
    hend a w (hI _ _ a w (fun i hi => ready_nil hd hs hr i hi) h)
  intro fuel
  induction fuel with
  | zero =>
    intro listed a w hs hc h
    have hall : ∀ b ∈ listed.toList, b = true := by
      intro b hb
      cases b with
      | true => rfl
      | false =>
        have : false ∈ listed.toList.filter (fun b => !b) := List.mem_filter.2 ⟨hb, rfl⟩
        rw [List.length_eq_zero_iff.1 hc] at this
        cases this
    have hr : Region.ready md ops listed = [] := by
      cases hr : Region.ready md ops listed with
      | nil => rfl
      | cons i r =>
        have hi : i ∈ Region.ready md ops listed := by rw [hr]; simp
        obtain ⟨h1, o, ho, _⟩ := mem_ready.1 hi
        have hlt : i < listed.size := by rw [hs]; exact (Array.getElem?_eq_some_iff.1 ho).1
        rw [Array.getD_eq_getD_getElem?, Array.getElem?_eq_getElem hlt] at h1
        have := hall listed[i] (by simp)
        simp [this] at h1
    exact ⟨hr, fin listed a w hs hr h⟩
  | succ fuel ih =>
    intro listed a w hs hc h
    refine ⟨fun hr => fin listed a w hs hr h, fun i hi => ?_⟩
    obtain ⟨h1, o, ho, hall⟩ := mem_ready.1 hi
    have hlt : i < listed.size := by rw [hs]; exact (Array.getElem?_eq_some_iff.1 ho).1
    have hli : listed[i] = false := by rw [Array.getD_eq_getD_getElem?, Array.getElem?_eq_getElem hlt] at h1; simpa using h1
    have hstep := StepsI.get ops.toList 0 i o hst (by simpa using ho) (fun j => listed.getD j false) a w (by rw [Nat.zero_add, Array.getD_eq_getD_getElem?, Array.getElem?_eq_getElem hlt]; simpa using hli)
      (by
        unfold upB
        rw [Array.all_eq_true']
        intro e he
        cases hb : Region.binds md e with
        | false => rfl
        | true => simpa using hall e he hb) h
    rw [Nat.zero_add] at hstep
    refine wpOp_mono (fun a' w' h' => ?_) hstep
    refine ih _ a' w' (by simpa using hs) ?_ (hI _ _ a' w' (fun j hj => ?_) h')
    · have key : ∀ (L : List Bool) (i : Nat) (hi : i < L.length), L[i] = false → ((L.set i true).filter (fun b => !b)).length + 1 = (L.filter (fun b => !b)).length := by
        intro L
        induction L with
        | nil => intro i hi; simp at hi
        | cons b L ihL =>
          intro i hi hb
          cases i with
          | zero => simp at hb; subst hb; simp
          | succ i =>
            have := ihL i (by simpa using hi) (by simpa using hb)
            cases b <;> simp <;> omega
      have := key listed.toList i (by simpa using hlt) (by simpa using hli)
      rw [hc] at this
      have e : (listed.setIfInBounds i true).toList = listed.toList.set i true := by simp
      rw [e]
      omega
    · by_cases hji : j = i
      · subst hji
        simp [Array.getD_eq_getD_getElem?, hlt]
      · simp only [Array.getD_eq_getD_getElem?, Array.getElem?_setIfInBounds_ne (Ne.symm hji), show (j == i) = false by simpa using hji, Bool.false_or]

/-- **A drawn region by what holds between its operations.** I says what holds of the frame and the world by which operations have come up. -/
theorem wp_region_inv (I : (Nat → Bool) → Act → World → Prop) {id : Nat} {Q : Exit → Act → World → Prop} {a : Act} {w : World} {L : List Oper} (hm : P.follows .mixedOrders = true) (hd : downB .any L.toArray = true)
    (hI : ∀ l l' a w, (∀ i, i < L.length → l i = l' i) → I l a w → I l' a w) (h0 : I (fun _ => false) a { w with drawn := w.drawn + 1 }) (hst : StepsI P .any L.toArray Q I 0 L)
    (hend : ∀ a w, I (fun _ => true) a w → Q .normal a w) : (Code.region id L.toArray true).wp P Q a w := by
  refine wp_region_any hm (wpAny_inv (I := I) hd (by simpa using hst) (by simpa using hI) hend _ _ a _ (by simp) (by simp) (hI _ _ _ _ (fun i hi => ?_) h0))
  simp [Array.getD_eq_getD_getElem?, hi]
end
end Go.Proofs.Ytbbcckopkbiojaa
