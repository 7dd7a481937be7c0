/- Texts of this claim, merged by a program (a claim may have 60 files): Pre, Sw4. -/
import Derived.Test.YtnbmmhoofilmfaaDoorK32
import Derived.Test.YtnbmmhoofilmfaaDoorK38
import Derived.Test.YtnbmmhoofilmfaaDoorK41
import Derived.Test.YtnbmmhoofilmfaaDoorK04
import Derived.Test.YtnbmmhoofilmfaaDoorK42
/- A drawn region whose first n operations wait for each other alone, by one walk of these, and by what each later operation's value is: over XValL. No program in sight. -/
namespace Go.Proofs.YtnbmmhoofilmfaaDoor.Vp
open Go.RowKit Go.Proofs.YtnbmmhoofilmfaaDoor
set_option linter.unusedVariables false

/-- the first n operations: no guard, no choice, a slot each; each reads what earlier ones of them wrote, for which it waits, or what nobody writes -/
def preOp (md : Region.Mode) (L : List Oper) (n : Nat) (o : Oper) : Bool :=
  (match o.guard with | none => true | some _ => false) && (match o.op with | .select _ _ => false | _ => true) && (match o.dst with | none => false | some _ => true) &&
  (List.range L.length).all fun j => match Vl.dst L j with
    | none => true
    | some d => !Tb.readsT o d || (decide (j < n) && o.after.any fun e => Region.binds md e && e.on == j)
def preB (md : Region.Mode) (L : List Oper) (n : Nat) : Bool := decide (n ≤ L.length) && (L.take n).all (preOp md L n)

section
variable {P : Program} {L : List Oper} {V : (Nat → Bool) → Nat → Value → World → Prop} {S : (Nat → Bool) → World → Prop} {a : Act}
theorem dst_some {i d : Nat} (h : Vl.dst L i = some d) : ∃ o, L[i]? = some o ∧ o.dst = some d := by
  unfold Vl.dst at h
  cases hl : L[i]? with
  | none => rw [hl] at h; cases h
  | some o => rw [hl] at h; exact ⟨o, rfl, h⟩
theorem dst_of {i d : Nat} {o : Oper} (h : L[i]? = some o) (hd : o.dst = some d) : Vl.dst L i = some d := by
  unfold Vl.dst; rw [h]; exact hd
structure POk (md : Region.Mode) (L : List Oper) (n : Nat) (o : Oper) : Prop where
  g : o.guard = none
  s : ∀ cs b, o.op ≠ .select cs b
  d : ∃ d, o.dst = some d
  r : ∀ j d, Vl.dst L j = some d → Tb.readsT o d = true → j < n ∧ ∃ e ∈ o.after, Region.binds md e = true ∧ e.on = j
theorem pok {md : Region.Mode} {n : Nat} (h : preB md L n = true) {i : Nat} {o : Oper} (hi : L[i]? = some o) (hn : i < n) : POk md L n o := by
  unfold preB at h
  rw [Bool.and_eq_true, List.all_eq_true] at h
  have hm : o ∈ L.take n := List.mem_of_getElem? (i := i) (by rw [List.getElem?_take, if_pos hn]; exact hi)
  have h1 := h.2 o hm
  unfold preOp at h1
  simp only [Bool.and_eq_true] at h1
  obtain ⟨⟨⟨hg, hs⟩, hd⟩, hr⟩ := h1
  have k1 : o.guard = none := by cases hgg : o.guard with | none => rfl | some x => rw [hgg] at hg; cases hg
  have k3 : ∃ d, o.dst = some d := by
    cases hdd : o.dst with
    | none => rw [hdd] at hd; cases hd
    | some x => exact ⟨x, rfl⟩
  refine ⟨k1, fun cs b e => (by rw [e] at hs; cases hs), k3, fun j d hj hrd => ?_⟩
  obtain ⟨oj, hoj, _⟩ := dst_some hj
  have h2 := (List.all_eq_true.1 hr) j (List.mem_range.2 (List.getElem?_eq_some_iff.1 hoj).1)
  rw [hj] at h2
  simp only [hrd, Bool.not_true, Bool.false_or, Bool.and_eq_true, decide_eq_true_eq, Array.any_eq_true'] at h2
  obtain ⟨h3, e, he, hbe⟩ := h2
  simp only [beq_iff_eq] at hbe
  exact ⟨h3, e, he, hbe.1, hbe.2⟩
/-- what the slots hold: of the first n operations what the walk says -/
def W (L : List Oper) (n : Nat) (A : Act) (V : (Nat → Bool) → Nat → Value → World → Prop) (l : Nat → Bool) (i : Nat) (v : Value) (w : World) : Prop :=
  if i < n then v = A.tmps.getD ((Vl.dst L i).getD 0) undef else V l i v w
theorem W.pre {n : Nat} {A : Act} {l : Nat → Bool} {i : Nat} {v : Value} {w : World} (h : W L n A V l i v w) (hi : i < n) {d : Nat} (hd : Vl.dst L i = some d) : v = A.tmps.getD d undef := by
  unfold W at h
  rw [if_pos hi, hd] at h
  exact h
theorem W.post {n : Nat} {A : Act} {l : Nat → Bool} {i : Nat} {v : Value} {w : World} (h : W L n A V l i v w) (hi : ¬ i < n) : V l i v w := by
  unfold W at h
  rwa [if_neg hi] at h

theorem W.up {n : Nat} {A : Act} {l l' : Nat → Bool} {i : Nat} {v : Value} {w w' : World} (h : W L n A V l i v w) (hv : ¬ i < n → V l i v w → V l' i v w') : W L n A V l' i v w' := by
  unfold W at h ⊢
  split
  · rwa [if_pos (by assumption)] at h
  · rw [if_neg (by assumption)] at h
    exact hv (by assumption) h
theorem W.mk {n : Nat} {A : Act} {l : Nat → Bool} {i : Nat} {v : Value} {w : World} (hi : ¬ i < n) (h : V l i v w) : W L n A V l i v w := by
  unfold W
  rwa [if_neg hi]
/-- the whole frame behind it -/
theorem all {n : Nat} {A : Act} {a' : Act} {w' : World} (h : Vm.I L (W L n A V) S a (fun _ => true) a' w') (hA : A.defers = a.defers) (hz : A.tmps.size = a.tmps.size) (ho : ∀ s, (∀ i, Vl.dst L i ≠ some s) → A.tmps.getD s undef = a.tmps.getD s undef) (ds : List Nat) (hds : ∀ i d, ¬ i < n → Vl.dst L i = some d → d ∈ ds) :
    a' = ds.foldl (fun x d => x.put (some d) (a'.tmps.getD d undef)) A := by
  obtain ⟨h1, h2, h3⟩ := Vl.foldl_put a' ds A
  generalize (ds.foldl (fun x d => x.put (some d) (a'.tmps.getD d undef)) A) = y at h1 h2 h3
  have hs : a'.tmps = y.tmps := by
    refine Array.ext (h.size.trans (hz.symm.trans h2.symm)) fun k hk1 hk2 => ?_
    have e : a'.tmps.getD k undef = y.tmps.getD k undef := by
      rw [h3 k (by rw [hz, ← h.size]; exact hk1)]
      by_cases hm : k ∈ ds
      · rw [if_pos hm]
      · rw [if_neg hm]
        by_cases hw : ∃ i, Vl.dst L i = some k
        · obtain ⟨i, hi⟩ := hw
          have hin : i < n := Classical.byContradiction fun e => hm (hds i k e hi)
          exact (h.vals i k rfl hi).pre hin hi
        · have hw : ∀ i, Vl.dst L i ≠ some k := fun i e => hw ⟨i, e⟩
          rw [ho k hw]
          exact h.other k fun i _ => hw i
    rw [Array.getD_eq_getD_getElem?, Array.getD_eq_getD_getElem?, Array.getElem?_eq_getElem hk1, Array.getElem?_eq_getElem hk2] at e
    exact e
  have hdf : a'.defers = y.defers := h.defers.trans (hA.symm.trans h1.symm)
  cases a'
  cases y
  simp only at hs hdf
  rw [hs, hdf]
/-- **A drawn region by a walk of its first n operations.** -/
theorem wp_region_pre (n : Nat) (V : (Nat → Bool) → Nat → Value → World → Prop) (S : (Nat → Bool) → World → Prop) (C : World → Prop) (A : Act) {id : Nat} {Q : Exit → Act → World → Prop} {w : World} (hm : P.follows .mixedOrders = true) (hd : downB .any L.toArray = true) (hpre : preB .any L n = true) (hB : Vl.dstB L a.tmps.size = true)
    (hVl : ∀ l l', (∀ i, n ≤ i → i < L.length → l i = l' i) → ∀ i v w, V l i v w → V l' i v w) (hS : ∀ l l' w, (∀ i, n ≤ i → i < L.length → l i = l' i) → S l w → S l' w) (hSC : ∀ l w, S l w → C w)
    (hVb : ∀ l i v W W', V l i v W → Below W.heap.size W W' → V l i v W') (hSb : ∀ l W W', S l W → Below W.heap.size W W' → C W' → S l W') (h0 : S (fun _ => false) { w with drawn := w.drawn + 1 })
    (hwalk : ∀ R : World → Prop, (∀ W W', R W → Below W.heap.size W W' → R W') → Nonempty (InW (fun W => C W ∧ R W)) → wpQuiet P (L.take n).toArray (fun w' => ∃ s : InW (fun W => C W ∧ R W), w' = s.W) (fun a' => a' = A) (L.take n) a)
    (hst : StepsI P .any L.toArray Q (Vm.I L (W L n A V) S a) n (L.drop n))
    (hend : ∀ a' w', Vm.I L (W L n A V) S a (fun _ => true) a' w' → (∀ ds : List Nat, (List.range L.length).all (fun i => decide (i < n) || match Vl.dst L i with | none => true | some d => ds.contains d) = true → a' = ds.foldl (fun x d => x.put (some d) (a'.tmps.getD d undef)) A) → Q .normal a' w') : (Code.region id L.toArray true).wp P Q a w := by
  have hn : n ≤ L.length := by unfold preB at hpre; rw [Bool.and_eq_true, decide_eq_true_eq] at hpre; exact hpre.1
  have htk : ∀ {o}, o ∈ L.take n → ∃ i, i < n ∧ L[i]? = some o := fun {o} ho => by
    obtain ⟨i, hi⟩ := List.getElem?_of_mem ho
    rw [List.getElem?_take] at hi
    split at hi
    · exact ⟨i, by assumption, hi⟩
    · cases hi
  have hlt : ∀ {i d}, Vl.dst L i = some d → i < L.length := fun {i d} e => by
    obtain ⟨o, ho, _⟩ := dst_some e
    exact (List.getElem?_eq_some_iff.1 ho).1
  have getW : ∀ R : World → Prop, (∀ W W', R W → Below W.heap.size W W' → R W') → (∃ W, C W ∧ R W) → A.defers = a.defers ∧ A.tmps.size = a.tmps.size ∧ (∀ s, (∀ o ∈ L.take n, o.dst ≠ some s) → A.tmps.getD s undef = a.tmps.getD s undef) ∧
      ∀ (o : Oper), o ∈ L.take n → ∀ d, o.dst = some d → ∀ w, (∃ s : InW (fun W => C W ∧ R W), w = s.W) → o.quietAt P A (fun w' => ∃ s : InW (fun W => C W ∧ R W), w' = s.W) w (A.tmps.getD d undef) := fun R hR ⟨W, hW⟩ => by
    refine Tb.walk_get (C := fun w' => ∃ s : InW (fun W => C W ∧ R W), w' = s.W) (L.take n) a (fun o ho => ?_) ?_ (fun o ho d hdo => ?_) (hwalk R hR ⟨⟨W, hW⟩⟩)
    · obtain ⟨i, hin, hi⟩ := htk ho
      have k := pok hpre hi hin
      obtain ⟨d, hdd⟩ := k.d
      exact ⟨k.g, k.s, d, hdd, Vl.dstB_lt hB (dst_of hi hdd)⟩
    · refine List.pairwise_iff_getElem.2 fun i j hi hj hij => ?_
      have hin : i < n := by rw [List.length_take] at hi; omega
      have hjn : j < n := by rw [List.length_take] at hj; omega
      have ei : L[i]? = some (L.take n)[i] := by rw [List.getElem_take]; exact List.getElem?_eq_getElem _
      have ej : L[j]? = some (L.take n)[j] := by rw [List.getElem_take]; exact List.getElem?_eq_getElem _
      refine ⟨fun e => ?_, fun d hdy => ?_⟩
      · obtain ⟨d, hdd⟩ := (pok hpre ei hin).d
        exact Vl.dstB_ne hB (dst_of ei hdd) (m := j) (by omega) (dst_of ej (by rw [← e, hdd]))
      · cases hr : Tb.readsT (L.take n)[i] d with
        | false => rfl
        | true =>
          obtain ⟨_, e, he, hb, hon⟩ := (pok hpre ei hin).r j d (dst_of ej hdy) hr
          have := downB_spec hd (i := i) (o := _) (by rw [List.getElem?_toArray]; exact ei) he hb
          omega
    · obtain ⟨i, hin, hi⟩ := htk ho
      cases hr : Tb.readsT o d with
      | false => rfl
      | true =>
        obtain ⟨_, e, he, hb, hon⟩ := (pok hpre hi hin).r i d (dst_of hi hdo) hr
        have := downB_spec hd (i := i) (by simpa using hi) he hb
        omega
  refine Vm.wp_region_val (W L n A V) S hm hd (fun l l' he i v w h => ?_) (fun l l' w he => hS l l' w fun i _ hi => he i hi) h0 (fun _ => ?_) hB (fun a' w' h => hend a' w' h fun ds hds => ?_)
  · unfold W at h ⊢
    split
    · rwa [if_pos (by assumption)] at h
    · rw [if_neg (by assumption)] at h
      exact hVl l l' (fun i _ hi => he i hi) i v w h
  rotate_left
  · obtain ⟨W, hW⟩ : ∃ W, C W ∧ True := ⟨_, hSC _ _ h0, trivial⟩
    obtain ⟨g1, g2, g3, _⟩ := getW (fun _ => True) (fun _ _ _ _ => trivial) ⟨W, hW⟩
    refine all h g1 g2 (fun s hs => g3 s fun o ho e => ?_) ds fun i d hin hd => ?_
    · obtain ⟨i, _, hi⟩ := htk ho
      exact hs i (dst_of hi e)
    · have := (List.all_eq_true.1 hds) i (List.mem_range.2 (hlt hd))
      rw [hd] at this
      simpa [hin] using this
  have key : ∀ i o, i < n → L[i]? = some o → ∀ l a' w', l i = false → upB .any o l = true → Vm.I L (W L n A V) S a l a' w' → wpOp P L.toArray Q i (Vm.I L (W L n A V) S a (fun j => j == i || l j)) a' w' := by
    intro i o hin hi l a' w' hl hu h
    have k := pok hpre hi hin
    obtain ⟨d, hdd⟩ := k.d
    have hmem : o ∈ L.take n := List.mem_of_getElem? (i := i) (by rw [List.getElem?_take, if_pos hin]; exact hi)
    obtain ⟨_, _, hoth, hq⟩ := getW (fun W => Below w'.heap.size w' W) (fun W W' h1 h2 => h1.trans (h2.mono h1.size)) ⟨w', hSC l w' h.st, Below.refl _ _⟩
    have hqo := hq o hmem d hdd
    have hev : execOp a'.eval o = execOp A.eval o := execOp_congr o k.s fun y hy => Tb.eval_same fun s hs => by
      have hrd := Tb.reads_mem hy hs
      by_cases hw : ∃ j, Vl.dst L j = some s
      · obtain ⟨j, hj⟩ := hw
        obtain ⟨hjn, e, he, hb, hon⟩ := k.r j s hj hrd
        have hlj : l j = true := by rw [← hon]; exact Tb.up_of hu he hb
        exact (h.vals j s hlj hj).pre hjn hj
      · have hw : ∀ j, Vl.dst L j ≠ some s := fun j e => hw ⟨j, e⟩
        rw [hoth s fun o2 ho2 e => by
          obtain ⟨j, _, hj⟩ := htk ho2
          exact hw j (dst_of hj e)]
        exact h.other s fun j _ => hw j
    have hi' : L.toArray[i]? = some o := by simpa using hi
    have hVl' : ∀ (l' : Nat → Bool), (∀ j, n ≤ j → j < L.length → l j = l' j) → ∀ j v W', V l j v W' → V l' j v W' := fun l' he j v W' => hVl l l' he j v W'
    have hup : ∀ j, n ≤ j → j < L.length → l j = (fun j => j == i || l j) j := fun j hj _ => by
      show l j = (j == i || l j)
      rw [show (j == i) = false by simp; omega, Bool.false_or]
    refine Tb.wpOp_of hi' k.g (Oper.wp_of_quiet (C := fun w1 => ∃ s : InW (fun W => C W ∧ Below w'.heap.size w' W), w1 = s.W) (K := fun b => b = a'.put (some d) (A.tmps.getD d undef)) ⟨⟨w', hSC l w' h.st, Below.refl _ _⟩, rfl⟩ (fun b W' hWW hb => ?_) ⟨A.tmps.getD d undef, fun W' hWW => ?_, by rw [hdd]⟩)
    · obtain ⟨s0, rfl⟩ := hWW
      have hW := s0.h
      subst hb
      rw [← hdd]
      refine h.next (sz := 0) hB i hi (A.tmps.getD d undef) hl (fun j dj hlj hdj hv => ?_) ?_ (hS l _ _ hup (hSb l _ _ h.st hW.2 hW.1))
      · unfold W at hv ⊢
        split
        · rwa [if_pos (by assumption)] at hv
        · rw [if_neg (by assumption)] at hv
          exact hVl' _ hup _ _ _ (hVb _ _ _ _ _ hv hW.2)
      · unfold W
        rw [if_pos hin, dst_of hi hdd]; rfl
    · obtain ⟨s0, rfl⟩ := hWW
      have := hqo s0.W ⟨s0, rfl⟩
      unfold Oper.quietAt at this ⊢
      rw [hev]; exact this
  refine Tb.steps_of L 0 fun i o hi l a' w' hl hu h => ?_
  rw [Nat.zero_add] at hl ⊢
  by_cases hin : i < n
  · exact key i o hin hi l a' w' hl hu h
  · have := StepsI.get (L.drop n) n (i - n) o hst (by rw [List.getElem?_drop, show n + (i - n) = i by omega]; exact hi) l a' w' (by rw [show n + (i - n) = i by omega]; exact hl) hu h
    rwa [show n + (i - n) = i by omega] at this
end
end Go.Proofs.YtnbmmhoofilmfaaDoor.Vp

/- ScanWritten: memory while it goes. -/
namespace Go.Proofs.YtnbmmhoofilmfaaDoor
open Go.RowKit
set_option linter.unusedVariables false

theorem jf_geo {G S I J s t : Int} {ta : Option Addr} {tn tc : Nat} {ca : Option Addr} {cn cc : Nat} {oa : Option Addr} {on oc : Nat} {W : World} {p : Nat} (h : At W p 41 (jfull G S I J s t ta tn tc ca cn cc oa on oc)) : W.rangeAt p 0 (gcells G S I J).toList := fun k v hv => by
  have hk := (List.getElem?_eq_some_iff.1 hv).1
  exact h.range k v (by rw [show (jfull G S I J s t ta tn tc ca cn cc oa on oc).toList = (gcells G S I J).toList ++ [.int .u32 s, .int .i64 t, .slice ta tn tc, .slice ca cn cc, .slice oa on oc] from rfl, List.getElem?_append_left hk]; exact hv)
theorem jf_head {G S I J s t : Int} {ta : Option Addr} {tn tc : Nat} {ca : Option Addr} {cn cc : Nat} {oa : Option Addr} {on oc : Nat} {W : World} {p : Nat} (h : At W p 41 (jfull G S I J s t ta tn tc ca cn cc oa on oc)) : W.rangeAt p 4 [.int .u32 s, .int .i64 t] := fun k v hv => by
  have hk : k < 2 := (List.getElem?_eq_some_iff.1 hv).1
  have := h.range (4 + k) v (by
    have : k = 0 ∨ k = 1 := by omega
    rcases this with rfl | rfl <;> exact hv)
  rwa [Nat.zero_add] at this
/-- memory while transactions are laid: the journal, the image -/
structure SwA (w : World) (jc : Array Value) (q N : Nat) (f : Nat → Nat → Int) (W : World) : Prop where
  x : At W w.heap.size 41 jc
  a : RArr W q 32 256 N (bkF f)
  bel : Below w.heap.size w W
section
variable {w : World} {jc : Array Value} {q N : Nat} {f : Nat → Nat → Int} {W W' : World}
theorem SwA.below (h : SwA w jc q N f W) (hb : Below W.heap.size W W') : SwA w jc q N f W' :=
  ⟨h.x.below hb h.x.lt, h.a.below hb, h.bel.trans (hb.mono h.bel.size)⟩
theorem SwA.drew (h : SwA w jc q N f W) (n : Nat) : SwA w jc q N f { W with drawn := n } := h.below ⟨rfl, rfl, rfl, Nat.le_refl _, fun _ _ => rfl⟩
theorem SwA.only (h : SwA w jc q N f W) {g : Nat} (ho : Only g W W') (h1 : w.heap.size < g) (h2 : g ≠ q) : SwA w jc q N f W' :=
  ⟨h.x.only ho (by omega), h.a.only ho (by omega), h.bel.trans (ho.below (by omega))⟩
/-- blocks are laid into the image -/
theorem SwA.lay {f' : Nat → Nat → Int} (h : SwA w jc q N f W) (hq : w.heap.size < q) (hA : RArr W' q 32 256 N (bkF f')) (hg : W.grownBy W' (some q)) : SwA w jc q N f' W' :=
  ⟨h.x.grownQ hg (by omega), hA, h.bel.grown hg h.bel.size (fun x e => by injection e with e; omega)⟩
/-- a row grows that is not the image -/
theorem SwA.grown (h : SwA w jc q N f W) {e : TypeId} {m : Nat} {v : Value} {n : Nat} {xs : List Value} (hw : w.heap.size < q) (ho : W.ownsRow (q + 1) e m v n xs) (hg : W.grownBy W' v.ownBlock) : SwA w jc q N f W' := by
  have hob : ∀ x, v.ownBlock = some x → q + 1 ≤ x := fun x e => (World.ownsRow.lt ho x e).1
  refine ⟨AtGrown h.x hg fun e => ?_, h.a.grown hg fun e => ?_, h.bel.grown hg h.bel.size (fun x e => by have := hob x e; omega)⟩
  · have := hob _ e; omega
  · have := hob _ e.symm; omega
end
/-- what Pack has given -/
structure PkL (W : World) (q : Nat) (t : Tr) (la : Option Addr) (n : Nat) : Prop where
  r : RRow W la 256 n (bkF (pkB t))
  q : ∀ b off, la = some ⟨b, off, none⟩ → q < b
  no : packE t ≠ 0 → n = 0
  yes : packE t = 0 → n = t.c + 1
theorem PkL.below {W W' : World} {q : Nat} {t : Tr} {la : Option Addr} {n : Nat} (h : PkL W q t la n) (hb : Below W.heap.size W W') : PkL W' q t la n :=
  ⟨h.r.below (by intro e; have := congrArg List.length e; rw [bkF_len] at this; cases this) hb, h.q, h.no, h.yes⟩
theorem PkL.le {W : World} {q : Nat} {t : Tr} {la : Option Addr} {n : Nat} (h : PkL W q t la n) : n ≤ 255 := by
  by_cases e : packE t = 0
  · have h1 := h.yes e
    obtain ⟨h2, h3⟩ := packE_zero e
    have := size_c h2
    omega
  · have := h.no e; omega
theorem PackPost.la {w w' : World} {t : Tr} {e : Ending} {q : Nat} (h : PackPost w t e w') (hq : q < w.heap.size) : ∃ la n, e = .returned (.tuple #[.slice la n n, .int .i64 (packE t)]) ∧ PkL w' q t la n := by
  rcases h with ⟨h1, rfl⟩ | ⟨h1, k, rfl, h2, h3⟩
  · exact ⟨none, 0, rfl, .inl rfl, fun b off e => (by cases e), fun _ => rfl, fun e => absurd e h1⟩
  · exact ⟨some ⟨k, 0, none⟩, t.c + 1, by rw [h1], .inr ⟨k, 0, rfl, BOwn.seg h3⟩, fun b off e => by injection e with e; injection e with e; omega, fun e => absurd h1 e, fun _ => rfl⟩
theorem TdV.low {W : World} {B B' : Nat} {t : Tr} {ca : Option Addr} {cc : Nat} {ra : Option Addr} {rc : Nat} (h : TdV W B t ca cc ra rc) (hb : B' ≤ B) : TdV W B' t ca cc ra rc := ⟨RMine.low h.c hb, RMine.low h.r hb⟩
theorem tval_inj {s : Int} {ca ca' : Option Addr} {n cc cc' : Nat} {ra ra' : Option Addr} {m rc rc' : Nat} (h : tval s ca n cc ra m rc = tval s ca' n cc' ra' m rc') : ca = ca' ∧ cc = cc' ∧ ra = ra' ∧ rc = rc' := by
  simp at h
  exact ⟨h.1.1, h.1.2, h.2.1, h.2.2⟩
/-- the classes of region 12 -/
structure C12 (w : World) (jc : Array Value) (q N : Nat) (f : Nat → Nat → Int) (t : Tr) (s : Mv.St) (W : World) : Prop where
  a : SwA w jc q N f W
  mid : s.n = 1 → ∃ ca cc ra rc, s.v = tval t.s ca t.n cc ra t.m rc ∧ TdV W (q + 1) t ca cc ra rc
  fin : s.n = 2 → ∃ la n, s.v = .tuple #[.slice la n n, .int .i64 (packE t)] ∧ PkL W q t la n
theorem TrM.onlyP {W W' : World} {B p : Nat} {T : TypeId} {cs : Array Value} {v : Value} {l : List Tr} (h : TrM W B v l) (hv : v.ownBlock ≠ some p) (hA : At W p T cs) (h2 : 101 ≠ T) (h3 : 3 ≠ T) (ho : Only p W W') : TrM W' B v l := by
  obtain ⟨ca, cc, ra, rc, k1, k2⟩ := h
  exact ⟨ca, cc, ra, rc, own_only k1 ho hv, fun i t ht => ⟨own_only (k2 i t ht).1 ho (at_own_neS hA (k2 i t ht).1 h2), own_only (k2 i t ht).2 ho (at_own_neS hA (k2 i t ht).2 h3)⟩⟩
theorem TdV.onlyP {W W' : World} {B p : Nat} {T : TypeId} {cs : Array Value} {t : Tr} {ca : Option Addr} {cc : Nat} {ra : Option Addr} {rc : Nat} (h : TdV W B t ca cc ra rc) (hA : At W p T cs) (h2 : 101 ≠ T) (h3 : 3 ≠ T) (ho : Only p W W') : TdV W' B t ca cc ra rc :=
  ⟨own_only h.c ho (at_own_neS hA h.c h2), own_only h.r ho (at_own_neS hA h.r h3)⟩
theorem r_call3 {P : Program} {W : World} {o : Oper} {a : Act} (f : FuncId) (x y z : Operand) (tys : Array TypeId) (u v t : Value) (ho : o.op = .call { callee := .value (.func f), args := #[x, y, z], argTypes := tys }) (hx : a.eval x = u) (hy : a.eval y = v) (hz : a.eval z = t)
    (hr : ((do let d ← Deferred.ofValue (a.eval (.func f)) #[u, v, t]; invoke d.target d.args) : Sem Next).run P W = .ok (.enter f #[u, v, t]) W) : (execOp a.eval o).run P W = .ok (.enter f #[u, v, t]) W := by
  rw [← hr]
  unfold execOp
  rw [ho]
  simp only [resolve]
  simp [hx, hy, hz]
theorem run_alloc_trans18 (W : World) : (Instr.alloc 51 true (.tuple #[])).run Tryd.prog W = .ok (.pointer (some ⟨W.heap.size, 0, none⟩)) (W.alloc (.cells (tcells 0 none 0 0 none 0 0) 51)) := by kernel_rfl
/-- region 20: what its later operations' slots hold (19: the transaction; 20: its variable, into which 21 stores) -/
def V20 (q B : Nat) (tr : Tr) (l : Nat → Bool) (i : Nat) (v : Value) (W : World) : Prop :=
  if i = 19 then ∃ ca cc ra rc, v = tval tr.s ca tr.n cc ra tr.m rc ∧ TdV W (q + 1) tr ca cc ra rc
  else if i = 20 then ∃ p, v = .pointer (some ⟨p, 0, none⟩) ∧ B ≤ p ∧ (l 21 = false → At W p 51 (tcells 0 none 0 0 none 0 0)) ∧ (l 21 = true → ∃ ca cc ra rc, At W p 51 (tcells tr.s ca tr.n cc ra tr.m rc) ∧ TdV W (q + 1) tr ca cc ra rc)
  else True
theorem V20.below {q B : Nat} {tr : Tr} {l l' : Nat → Bool} {i : Nat} {v : Value} {W W' : World} (h : V20 q B tr l i v W) (hl : l' 21 = l 21) (hb : Below W.heap.size W W') : V20 q B tr l' i v W' := by
  unfold V20 at h ⊢
  rw [hl]
  by_cases h1 : i = 19
  · subst h1
    obtain ⟨ca, cc, ra, rc, e, h⟩ := h
    exact ⟨ca, cc, ra, rc, e, h.below hb⟩
  by_cases h2 : i = 20
  · subst h2
    obtain ⟨p, e1, e2, h3, h4⟩ := h
    exact ⟨p, e1, e2, fun e => (h3 e).below hb (h3 e).lt, fun e => by obtain ⟨ca, cc, ra, rc, h5, h6⟩ := h4 e; exact ⟨ca, cc, ra, rc, h5.below hb h5.lt, h6.below hb⟩⟩
  rw [if_neg h1, if_neg h2]
  trivial
structure S20 (w : World) (jc : Array Value) (q N : Nat) (f : Nat → Nat → Int) (B : Nat) (wa : Option Addr) (wc : Nat) (L : List Tr) (l : Nat → Bool) (W : World) : Prop where
  a : SwA w jc q N f W
  v : TrM W (q + 1) (.slice wa L.length wc) L
  o : ∀ g, (Value.slice wa L.length wc).ownBlock = some g → g < B
  b : B ≤ W.heap.size
  l : l 21 = true → l 20 = true ∧ l 19 = true
theorem S20.below {w : World} {jc : Array Value} {q N : Nat} {f : Nat → Nat → Int} {B : Nat} {wa : Option Addr} {wc : Nat} {L : List Tr} {l l' : Nat → Bool} {W W' : World} (h : S20 w jc q N f B wa wc L l W) (hl : l' 21 = true → l' 20 = true ∧ l' 19 = true) (hb : Below W.heap.size W W') : S20 w jc q N f B wa wc L l' W' :=
  ⟨h.a.below hb, h.v.below hb, h.o, Nat.le_trans h.b hb.size, hl⟩
theorem S20.store {w : World} {jc : Array Value} {q N : Nat} {f : Nat → Nat → Int} {B : Nat} {wa : Option Addr} {wc : Nat} {L : List Tr} {l l' : Nat → Bool} {W W' : World} (h : S20 w jc q N f B wa wc L l W) (hl : l' 21 = true → l' 20 = true ∧ l' 19 = true) (hq : w.heap.size < q) (hqB : q < B) {p : Nat} (hp : B ≤ p) {cs : Array Value} (hA : At W p 51 cs) (ho : Only p W W') : S20 w jc q N f B wa wc L l' W' :=
  ⟨h.a.only ho (by omega) (by omega), h.v.onlyP (fun e => by have := h.o p e; omega) hA (by decide) (by decide) ho, h.o, by rw [ho.size]; exact h.b, hl⟩
theorem own_laid {W W' : World} {q : Nat} {e : TypeId} {m : Nat} {v : Value} {n : Nat} {xs : List Value} (h : W.ownsRow (q + 1) e m v n xs) (hg : W.grownBy W' (some q)) : W'.ownsRow (q + 1) e m v n xs :=
  World.ownsRow.kept h hg (by
    cases h1 : v.ownBlock with
    | none => exact .inl rfl
    | some g => exact .inr (fun e => by injection e with e; have := (World.ownsRow.lt h g h1).1; omega))
theorem TrM.laid {W W' : World} {q : Nat} {v : Value} {l : List Tr} (h : TrM W (q + 1) v l) (hg : W.grownBy W' (some q)) : TrM W' (q + 1) v l := by
  obtain ⟨ca, cc, ra, rc, k1, k2⟩ := h
  exact ⟨ca, cc, ra, rc, own_laid k1 hg, fun i t ht => ⟨own_laid (k2 i t ht).1 hg, own_laid (k2 i t ht).2 hg⟩⟩
theorem TdV.laid {W W' : World} {q : Nat} {t : Tr} {ca : Option Addr} {cc : Nat} {ra : Option Addr} {rc : Nat} (h : TdV W (q + 1) t ca cc ra rc) (hg : W.grownBy W' (some q)) : TdV W' (q + 1) t ca cc ra rc := ⟨own_laid h.c hg, own_laid h.r hg⟩
theorem LaidTo.ok {L : Nat → Nat → Int} : ∀ {l : List Tr} {k : Nat} {s : Int} {k' : Nat}, LaidTo L k s l k' → ∀ t ∈ l, t.Ok
  | [], _, _, _, _, t, h => by cases h
  | x :: l, _, _, _, h, t, ht => by
    rcases List.mem_cons.1 ht with rfl | ht
    · exact h.1
    · exact LaidTo.ok h.2.2.2.2.2 t ht
theorem run_eql_headW (s t s' t' : Int) (w : World) : (binOp .eql 36 (.agg #[.int .u32 s, .int .i64 t]) (.agg #[.int .u32 s', .int .i64 t'])).run Tryd.prog w = .ok (.bool (s == s' && t == t')) w := by
  have hS : Tryd.prog.underlying 36 = some (.struct (Tryd.prog.fieldsOf 36)) := by kernel_rfl
  have hp : Tryd.prog.stoodInHeld 36 = false := by kernel_rfl
  rw [run_eql_struct, show (10000 : Nat) = 9999 + 1 from rfl, run_equalIn_agg w 9999 _ _ _ hS hp]
  simp only [Program.fieldsOf, Tryd.underlying36]
  clear hS hp
  go_simp
  by_cases h1 : s = s' <;> by_cases h2 : t = t' <;> simp [h1, h2]
theorem run_alloc_headW (W : World) : (Instr.alloc 36 true (.tuple #[])).run Tryd.prog W = .ok (.pointer (some ⟨W.heap.size, 0, none⟩)) (W.alloc (.cells #[.int .u32 0, .int .i64 0] 36)) := by kernel_rfl
theorem headOk18 {s : Int} {T : Nat} (h1 : 100 ≤ s) (h2 : s ≤ 1073741824) (h3 : (T : Int) ≤ 255) : headOk s (T : Int) = true := by
  unfold headOk seqB
  simp; omega
end Go.Proofs.YtnbmmhoofilmfaaDoor
