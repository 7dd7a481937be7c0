/- Copies of rows that came in: 'append([]T{}, l...)'. -/
import Derived.Test.YtahobhifafiaeaaR9d
import Derived.Test.YtahobhifafiaeaaOne9
import Derived.Test.YtahobhifafiaeaaOpen9
import Derived.Laws.AppendOwnNone
namespace Go.Proofs.Ytahobhifafiaeaa
open Go.RowKit Go.ChangeShapes Go.WideShapes Go.ChangeAt Go.Deep
set_option linter.unusedVariables false

theorem nums_none {H : Type} {enc : TypeId × Value → H} {W : World} {a : Option Addr} {len cap : Nat} {d : DataW H} {p : List MemPlace} (h : DataW.Trod enc Try.prog W 0 (fun _ => true) true 26 (.slice a len cap) d p) : a = none → len = 0 ∧ cap = 0 := by
  intro ha
  obtain ⟨fuel, hf⟩ := h
  rcases open_ints Try.underlying26 Try.underlying22 (by kernel_rfl) hf with ⟨hcs, _⟩ | ⟨x, l, c, zs, hcs, _⟩
  · simp [Value.cells] at hcs; exact ⟨hcs.2.1, hcs.2.2⟩
  · simp [Value.cells] at hcs; rw [ha] at hcs; cases hcs.1
theorem tags_none {H : Type} {enc : TypeId × Value → H} {W : World} {a : Option Addr} {len cap : Nat} {d : DataW H} {p : List MemPlace} (h : DataW.Trod enc Try.prog W 0 (fun _ => true) true 25 (.slice a len cap) d p) : a = none → len = 0 ∧ cap = 0 := by
  intro ha
  obtain ⟨fuel, hf⟩ := h
  rcases open_slice_pairs Try.underlying25 Try.underlying69 (by kernel_rfl) rfl rfl (by kernel_rfl) (by kernel_rfl) hf with ⟨hcs, _⟩ | ⟨x, l, c, mx, nn, V0, V1, D0, D1, P0, P1, hcs, _⟩
  · simp [Value.cells] at hcs; exact ⟨hcs.2.1, hcs.2.2⟩
  · simp [Value.cells] at hcs; rw [ha] at hcs; cases hcs.1
theorem own_nil (w : World) (e : TypeId) (size base : Nat) (hb : base ≤ w.heap.size) : (w.alloc (.cells #[] e)).ownsRow base e size (.slice (some ⟨w.heap.size, 0, none⟩) 0 0) 0 [] :=
  ⟨by simp, .inr ⟨_, 0, #[], rfl, hb, heap_alloc_new w _, by omega, by unfold maxLen; omega, by simp, by simp⟩⟩
theorem own_nums' {W : World} {base k : Nat} {e : TypeId} {v : Value} {m : Nat → Int} (h : W.ownsRow base e 1 v k (Ks .u32 k m)) : ∃ a cap, v = .slice a k cap ∧ NumRow W a k m := by
  rcases h.2 with ⟨rfl, rfl⟩ | ⟨g, cap, cur, rfl, _⟩
  · exact ⟨none, 0, rfl, .inl rfl⟩
  · exact ⟨_, cap, rfl, own_nums h⟩
theorem Tc_one (tb : Nat → Int) (te : Nat → Bool) (k : Nat) : ∀ u ∈ Tc tb te k, u.oneCell' = true := by
  induction k with
  | zero => intro u hu; cases hu
  | succ k ih =>
    intro u hu
    simp only [Tc, List.mem_append, List.mem_cons, List.not_mem_nil, or_false] at hu
    rcases hu with hu | rfl | rfl
    · exact ih u hu
    · rfl
    · rfl
theorem tags_news {W : World} {ad : Addr} {n : Nat} {tb : Nat → Int} {te : Nat → Bool} (hr : TagRow W (some ad) n tb te) : ∀ (j : Nat) (u : Value), (Tc tb te n)[j]? = some u → W.cell? (ad.add j) = some u := by
  intro j u hj
  have hjn : j < n * 2 := by have := (List.getElem?_eq_some_iff.1 hj).1; rwa [Tc_length] at this
  rcases hr with h0 | ⟨b, off, he, hseg⟩
  · omega
  · injection he with he; subst he
    have hi : j / 2 < n := by omega
    obtain ⟨g0, g1⟩ := Tc_get tb te n (j / 2) hi
    obtain ⟨c0, c1⟩ := hseg (j / 2) hi
    rw [addr_add]
    by_cases h2 : j % 2 = 0
    · have e : j = j / 2 * 2 := by omega
      have hj' : (Tc tb te n)[j / 2 * 2]? = some u := e ▸ hj
      rw [g0] at hj'
      rw [← hj', show off + j = off + j / 2 * 2 by omega]; exact c0
    · have e : j = j / 2 * 2 + 1 := by omega
      have hj' : (Tc tb te n)[j / 2 * 2 + 1]? = some u := e ▸ hj
      rw [g1] at hj'
      rw [← hj', show off + j = off + j / 2 * 2 + 1 by omega]; exact c1
theorem nums_news {W : World} {ad : Addr} {n : Nat} {m : Nat → Int} (hr : NumRow W (some ad) n m) : ∀ (j : Nat) (u : Value), (Ks .u32 n m)[j]? = some u → W.cell? (ad.add j) = some u := by
  intro j u hj
  have hjn : j < n := by have := (List.getElem?_eq_some_iff.1 hj).1; rwa [Ks_length] at this
  rw [Ks_get _ _ _ _ hjn] at hj
  rcases hr with h0 | ⟨b, off, he, hseg⟩
  · omega
  · injection he with he; subst he
    rw [addr_add, ← hj]; exact hseg j hjn
theorem wpList_copy {P : Program} {w : World} {ops : Array Oper} {rest : List Oper} {o : Oper} {a : Act} {Q : Exit → Act → World → Prop} (hgd : o.guard = none) (s x : Operand) (t : TypeId)
    (ho : o.op = .call { callee := .builtin .append, args := #[s, x], argTypes := #[t, t] })
    (base : Nat) (e : TypeId) (i : TypeInfo) (z : Value) (size bytes : Nat) (ht : P.underlying t = some (.slice e)) (hi : P.info? e = some i) (hz : i.zero = some z)
    (hsize : i.size = size) (hby : i.bytes = bytes) (hzs : z.cells.size = size) (hsz : 0 < size) (g : Nat) (hs : a.eval s = .slice (some ⟨g, 0, none⟩) 0 0) (hown : w.ownsRow base e size (.slice (some ⟨g, 0, none⟩) 0 0) 0 [])
    (xa : Option Addr) (n c : Nat) (news : List Value) (hx : a.eval x = .slice xa n c) (hc : xa = none → n = 0 ∧ c = 0) (hl : news.length = n * size)
    (hnews : ∀ ad, xa = some ad → ∀ j u, news[j]? = some u → w.cell? (ad.add j) = some u) (h1 : ∀ u ∈ news, u.oneCell' = true) (h63 : n ≤ maxLen) (hbytes : n * bytes ≤ 140737488355328) (hbase : base ≤ w.heap.size)
    (h : ∀ v' w', w'.ownsRow base e size v' n news → w.grownBy w' (some g) → wpList P ops Q rest (a.put o.dst v') w') : wpList P ops Q (o :: rest) a w := by
  cases xa with
  | some ad =>
    refine wpList_append_own w hgd s x t ho base e i z size bytes ht hi hz hsize hby hzs hsz _ 0 [] hs hown ad n c news hx hl (hnews ad rfl) h1 (by omega) (by rw [Nat.zero_add]; exact hbytes) hbase (fun v' w' h2 h3 _ => h v' w' ?_ h3)
    rw [Nat.zero_add, List.nil_append] at h2; exact h2
  | none =>
    obtain ⟨rfl, rfl⟩ := hc rfl
    have : news = [] := by simpa using hl
    subst this
    exact wpList_append_own_none hgd s x t ho base e i size ht hi _ 0 [] hs hown hx (h _ _ hown ⟨rfl, rfl, rfl, Nat.le_refl _, fun _ _ _ => rfl⟩)
theorem TagRow.grown {w w' : World} {a : Option Addr} {n : Nat} {tb : Nat → Int} {te : Nat → Bool} {g : Nat} (h : TagRow w a n tb te) (hg : w.grownBy w' (some g)) (hr : ∀ x, a = some x → 0 < n → x.block ≠ g) : TagRow w' a n tb te := by
  by_cases h0 : n = 0
  · exact .inl h0
  rcases h with h | ⟨b, off, rfl, h⟩
  · exact .inl h
  · exact .inr ⟨b, off, rfl, h.grown hg (hr _ rfl (by omega))⟩
end Go.Proofs.Ytahobhifafiaeaa
