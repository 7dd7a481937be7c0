/- Texts of this claim, merged by a program (a claim may have 60 files): SliceA, BlkWp, Clear, Jb1, InoPut, InoPutY, InoG. -/
import Derived.Test.YtnbmmhoofilmfaaDoorK03
import Derived.Test.YtnbmmhoofilmfaaDoorK04
import Derived.Laws.Tables
import Derived.Laws.CopyOwn
import Derived.Deep.MidRow
import Derived.WalkKit
import Derived.Lib.SliceRun
import Derived.Test.YtnbmmhoofilmfaaDoorK05
/- Slices of a block of 256 bytes, by a pointer to it, in this program's own numbers. -/
namespace Go.Proofs.YtnbmmhoofilmfaaDoor
open Go.RowKit
set_option linter.unusedVariables false
theorem addr_add (g o k : Nat) : (⟨g, o, none⟩ : Addr).add k = ⟨g, o + k, none⟩ := by
  unfold Addr.add; split
  · next h => subst h; rfl
  · rfl
theorem run_sliceBlk (g o lo hi : Nat) (L H : Int) (hL : L = (lo : Int)) (hH : H = (hi : Int)) (h1 : lo ≤ hi) (h2 : hi ≤ 256) (h3 : lo < 256) (W : World) :
    (Instr.sliceAt 32 (.pointer (some ⟨g, o, none⟩)) (some (.int .i64 L)) (some (.int .i64 H)) none).run Tryd.prog W = .ok (.slice (some ⟨g, o + lo, none⟩) (hi - lo) (256 - lo)) W := by
  subst hL hH
  have hal : Tryd.prog.arrayLen 32 = 256 := by kernel_rfl
  have hsz : ∀ W, (Go.sizeOf (Tryd.prog.elem 32)).run Tryd.prog W = .ok 1 W := fun W => by kernel_rfl
  rw [run_sliceAt_array_lh W 32 _ (by kernel_rfl) .i64 .i64 (lo : Int) (hi : Int) (by omega) (by omega) (by rw [hal]; omega), hsz, hal]
  simp only [Result.andThen, slicedAt, Int.toNat_natCast, Nat.mul_one]
  rw [if_neg (by omega), addr_add]
theorem run_sliceBlkAll (g o : Nat) (W : World) :
    (Instr.sliceAt 32 (.pointer (some ⟨g, o, none⟩)) none none none).run Tryd.prog W = .ok (.slice (some ⟨g, o, none⟩) 256 256) W := by
  have hal : Tryd.prog.arrayLen 32 = 256 := by kernel_rfl
  have hsz : ∀ W, (Go.sizeOf (Tryd.prog.elem 32)).run Tryd.prog W = .ok 1 W := fun W => by kernel_rfl
  rw [run_sliceAt_array_all W 32 _ (by kernel_rfl), hsz, hal]
  simp only [Result.andThen, slicedAt]
  rfl
end Go.Proofs.YtnbmmhoofilmfaaDoor

/- Whole blocks loaded and stored, as laws for the walk, in this program's own numbers. -/
namespace Go.Proofs.YtnbmmhoofilmfaaDoor
open Go.RowKit
set_option linter.unusedVariables false
abbrev bval (z : Nat → Int) : Value := .agg (Ks .u8 256 z).toArray
theorem zero_block (W : World) : (zeroValue 32).run Tryd.prog W = .ok (.agg (Ks .u8 256 (fun _ => 0)).toArray) W := by kernel_rfl
theorem info_block : (Tryd.prog.info? 32).map (·.size) = some 256 := by kernel_rfl
theorem info_block' (z : Nat → Int) : (Tryd.prog.info? 32).map (·.size) = some (Ks .u8 256 z).toArray.size := by rw [Ks_size]; exact info_block
theorem run_eql_block (z y : Nat → Int) (w : World) : (binOp .eql 32 (.agg (Ks .u8 256 z).toArray) (.agg (Ks .u8 256 y).toArray)).run Tryd.prog w = .ok (.bool (eqB z y 256)) w := by
  obtain ⟨i, hi, _⟩ := info_parts info8
  exact run_eql_ints w Tryd.underlying32 hi Tryd.underlying5 (by kernel_rfl) z y
theorem Blk.range {w : World} {g : Nat} {T : TypeId} {n : Nat} {z : Nat → Int} (h : Blk w g T n z) : w.rangeAt g 0 (Ks .u8 n z) := by
  intro j v hj
  rw [Nat.zero_add]
  exact cell_of_heap h (by simpa using hj)
theorem rangeAt_below {w w' : World} {b o : Nat} {cs : List Value} (h : w.rangeAt b o cs) {B : Nat} (hb : Below B w w') (hB : b < B) : w'.rangeAt b o cs := fun j v hv => (hb.cell (p := ⟨b, o + j, none⟩) hB).trans (h j v hv)
theorem Blk.setRow {w : World} {g : Nat} {T : TypeId} {n : Nat} {z : Nat → Int} (h : Blk w g T n z) (y : Nat → Int) : Blk (w.setRow g (Ks .u8 n y).toArray) g T n y := setRow_heap w g _ _ T (0, 0) h
theorem only_setRow (w : World) (g : Nat) (cs : Array Value) {old : Array Value} {t : TypeId} (h : w.heap[g]? = some (.cells old t (0, 0))) (hs : cs.size = old.size) : Only g w (w.setRow g cs) := by
  refine ⟨rfl, rfl, rfl, size_setRow _ _ _, fun k hk => setRow_other _ _ _ _ hk, fun a => ?_, fun c e fr hc => ?_⟩
  · by_cases ha : a.block = g
    · unfold World.frozen?
      rw [ha, h, setRow_heap w g _ cs t (0, 0) h]
    · exact World.frozen?_of_block (w := w) (setRow_other _ _ _ _ ha)
  · rw [h] at hc
    injection hc with hc
    injection hc with h1 h2 h3
    subst h1 h2 h3
    exact ⟨cs, hs, setRow_heap w g _ cs _ _ h⟩
theorem results_row_tmp {P : Program} {fn : Func} {p u : Tmp} {ty : TypeId} (h : fn.results = #[.cell p ty, .tmp u]) (tmps : Array Value) (w : World) (g : Nat) (t : TypeId) (cs : Array Value) (fr : Nat × Nat) (d : TypeDesc)
    (hp : tmps.getD p undef = .pointer (some ⟨g, 0, none⟩)) (hg : w.heap[g]? = some (.cells cs t fr))
    (hu : P.underlying ty = some d) (hd : (match d with | .struct _ | .array _ _ => true | _ => false) = true) (hi : (P.info? ty).map (·.size) = some cs.size) :
    (results fn tmps).run P w = .ok (.tuple #[.agg cs, tmps.getD u undef]) w := by
  have hp' : tmps[p]?.getD undef = .pointer (some ⟨g, 0, none⟩) := by simpa using hp
  simp [results, h, hp', asAddr, run_loadVar_row w g t ty cs fr d hg hu hd hi]

theorem wp_loadBlk {w : World} {ops : Array Oper} {rest : List Oper} {o : Oper} {a : Act} {Q : Exit → Act → World → Prop} (hgd : o.guard = none) (x : Operand) (ho : o.op = .load 32 x)
    (g : Nat) (z : Nat → Int) (hx : a.eval x = .pointer (some ⟨g, 0, none⟩)) (hB : Blk w g 32 256 z)
    (h : wpList Tryd.prog ops Q rest (a.put o.dst (bval z)) w) : wpList Tryd.prog ops Q (o :: rest) a w :=
  wpList_load_row hgd 32 x ho g hx 32 (Ks .u8 256 z).toArray (0, 0) _ hB Tryd.underlying32 rfl (info_block' _) h
theorem wp_storeBlk {w : World} {ops : Array Oper} {rest : List Oper} {o : Oper} {a : Act} {Q : Exit → Act → World → Prop} (hgd : o.guard = none) (x y : Operand) (ho : o.op = .store 32 x y)
    (g : Nat) (z old : Nat → Int) (hx : a.eval x = .pointer (some ⟨g, 0, none⟩)) (hy : a.eval y = bval z) (hB : Blk w g 32 256 old)
    (h : ∀ w', Blk w' g 32 256 z → Only g w w' → wpList Tryd.prog ops Q rest (a.put o.dst undef) w') : wpList Tryd.prog ops Q (o :: rest) a w :=
  wpList_store_row hgd 32 x y ho g (Ks .u8 256 z).toArray hx hy 32 _ hB (info_block' _) (by rw [Ks_size, Ks_size]) (Ks_one _ _ _) (h _ (hB.setRow z) (only_setRow w g _ hB (by rw [Ks_size, Ks_size])))
end Go.Proofs.YtnbmmhoofilmfaaDoor

/- clear of a row of bytes, as a law for the walk. -/
namespace Go.Proofs.YtnbmmhoofilmfaaDoor
open Go.RowKit
set_option linter.unusedVariables false
theorem only_setCells (b : Nat) : ∀ (vs : List Value) (o : Nat) (w : World), Only b w (w.setCells b o vs)
  | [], _, w => Only.refl _ _
  | v :: r, o, w => (Only.setCell w ⟨b, o, none⟩ v).trans (only_setCells b r (o + 1) _)
theorem puts_setCells (b o n : Nat) (f : Nat → Int) (vs : List Value) (w : World) (hl : vs.length = n) (hv : ∀ i (h : i < vs.length), vs[i] = .int .u8 (f i)) (hc : ∀ j, j < n → (w.cell? ⟨b, o + j, none⟩).isSome = true) :
    Puts b o n f w (w.setCells b o vs) := by
  refine ⟨only_setCells b vs o w, fun x => ?_⟩
  by_cases h : o ≤ x ∧ x < o + n
  · rw [if_pos h]
    have := World.cell?_setCells_in b vs o w (fun j hj => hc j (by omega)) (x - o) (by omega)
    rw [show o + (x - o) = x by omega, hv _ (by omega)] at this
    exact this
  · rw [if_neg h]
    exact World.cell?_setCells_out b vs o w _ (fun _ _ => by simp; omega)
theorem wpList_clearB {P : Program} {w : World} {ops : Array Oper} {rest : List Oper} {o : Oper} {a : Act} {Q : Exit → Act → World → Prop} (hgd : o.guard = none) (s : Operand) (t : TypeId)
    (ho : o.op = .call { callee := .builtin .clear, args := #[s], argTypes := #[t] }) (e : TypeId) (ht : P.underlying t = some (.slice e)) (hz : ∀ w, (zeroValue e).run P w = .ok (.int .u8 0) w)
    (b off n c : Nat) (z : Nat → Int) (hs : a.eval s = .slice (some ⟨b, off, none⟩) n c) (hn : 0 < n) (hseg : Seg w b off n z) (hf : Soft w b off n)
    (h : ∀ w', Puts b off n (fun _ => 0) w w' → wpList P ops Q rest (a.put o.dst (.tuple #[])) w') : wpList P ops Q (o :: rest) a w := by
  refine wpList_plain hgd fun K hK => ?_
  have hc : ∀ j, j < n → (w.cell? ⟨b, off + j, none⟩).isSome = true := fun j hj => by rw [hseg j hj]; rfl
  have hrun := Lib.run_clear_slice (P := P) w t e o.type (.int .u8 0) ht hz rfl rfl b off n c hn hc hf
  unfold Oper.wp
  simp [execOp, ho, resolve, invoke, builtin, hs, hrun, Result.andThen]
  exact hK _ _ (h _ (puts_setCells b off n (fun _ => 0) _ w (by simp) (by simp) hc))
theorem grown_trans {a b c : World} {row : Option Nat} (h : a.grownBy b row) (k : b.grownBy c row) : a.grownBy c row :=
  ⟨k.os.trans h.os, k.tape.trans h.tape, k.output.trans h.output, Nat.le_trans h.size k.size, fun j hj hne => (k.block j (Nat.lt_of_lt_of_le hj h.size) hne).trans (h.block j hj hne)⟩
theorem grown_only {a b : World} {g : Nat} (h : Only g a b) : a.grownBy b (some g) :=
  ⟨h.os, h.tape, h.output, Nat.le_of_eq h.size.symm, fun j _ hne => h.block j (fun e => hne (by rw [e]))⟩
theorem grown_below {a b : World} {row : Option Nat} (h : Below a.heap.size a b) : a.grownBy b row := ⟨h.os, h.tape, h.output, h.size, fun j hj _ => h.block j hj⟩
theorem grown_below_ge {a b : World} {row : Option Nat} {B : Nat} (h : a.grownBy b row) (hB : B ≤ a.heap.size) (hr : ∀ k, row = some k → B ≤ k) : Below B a b := (Below.refl B a).grown h hB hr
end Go.Proofs.YtnbmmhoofilmfaaDoor

/- Contracts of jblock's small functions. -/
namespace Go.Proofs.YtnbmmhoofilmfaaDoor
open Go.RowKit
set_option linter.unusedVariables false

theorem results_row {P : Program} {fn : Func} {p : Tmp} {ty : TypeId} (h : fn.results = #[.cell p ty]) (tmps : Array Value) (w : World) (g : Nat) (t : TypeId) (cs : Array Value) (fr : Nat × Nat) (d : TypeDesc)
    (hp : tmps.getD p undef = .pointer (some ⟨g, 0, none⟩)) (hg : w.heap[g]? = some (.cells cs t fr))
    (hu : P.underlying ty = some d) (hd : (match d with | .struct _ | .array _ _ => true | _ => false) = true) (hi : (P.info? ty).map (·.size) = some cs.size) :
    (results fn tmps).run P w = .ok (.agg cs) w := by
  have hp' : tmps[p]?.getD undef = .pointer (some ⟨g, 0, none⟩) := by simpa using hp
  simp [results, h, hp', asAddr, run_loadVar_row w g t ty cs fr d hg hu hd hi]
theorem results_blk {fn : Func} {p : Tmp} (h : fn.results = #[.cell p 32]) (tmps : Array Value) (w : World) (g : Nat) (z : Nat → Int)
    (hp : tmps.getD p undef = .pointer (some ⟨g, 0, none⟩)) (hg : Blk w g 32 256 z) : (results fn tmps).run Tryd.prog w = .ok (bval z) w :=
  results_row h tmps w g 32 (Ks .u8 256 z).toArray (0, 0) _ hp hg Tryd.underlying32 rfl (info_block' _)
theorem results_blk2 {fn : Func} {p u : Tmp} (h : fn.results = #[.cell p 32, .tmp u]) (tmps : Array Value) (w : World) (g : Nat) (z : Nat → Int)
    (hp : tmps.getD p undef = .pointer (some ⟨g, 0, none⟩)) (hg : Blk w g 32 256 z) : (results fn tmps).run Tryd.prog w = .ok (.tuple #[bval z, tmps.getD u undef]) w :=
  results_row_tmp h tmps w g 32 (Ks .u8 256 z).toArray (0, 0) _ hp hg Tryd.underlying32 rfl (info_block' _)
theorem maySeq_any (s : Int) (w : World) : Calls Tryd.prog 53 #[.int .u32 s] w fun e w' => e = .returned (.bool (seqB s)) ∧ w = w' := by
  by_cases h1 : 1 ≤ s
  · by_cases h2 : s ≤ 2147483648
    · have hd : Hid (seqB s = true) := by show _ = _; simp [seqB, h1, h2]
      go_enter Tryd.func53, Tryd.ntmps53
      go_wp2
      go_ret
      exact ⟨ret_bool hd.out.symm, rfl⟩
    · have hd : Hid (seqB s = false) := by show _ = _; simp [seqB, h1, h2]
      go_enter Tryd.func53, Tryd.ntmps53
      go_wp2
      go_ret
      exact ⟨ret_bool hd.out.symm, rfl⟩
  · have hd : Hid (seqB s = false) := by show _ = _; simp [seqB, h1]
    go_enter Tryd.func53, Tryd.ntmps53
    go_wp2
    go_ret
    exact ⟨ret_bool hd.out.symm, rfl⟩
/-- a word put into a block of words -/
theorem putW (g : Nat) {T : TypeId} (l : Nat → Int) (k : Nat) (K v : Int) (hK : K = 4 * (k : Int)) (hk : k < 64) (hv : 0 ≤ v) (w : World) (hB : Blk w g T 256 (wz l)) :
    Calls Tryd.prog 88 #[.slice (some ⟨g, 0, none⟩) 256 256, .int .i64 K, .int .u32 v] w fun e w' => e = .returned (.bool true) ∧ Blk w' g T 256 (wz (upd l k v)) ∧ Only g w w' := by
  refine (put32_yes g 0 256 256 K v (wz l) w (by omega) (by omega) (by omega) hv hB.seg (hB.soft 0 256)).mono fun e w' ⟨he, hp⟩ => ⟨he, ?_, hp.only⟩
  rw [show 0 + K.toNat = 4 * k by omega] at hp
  exact (hB.puts hp).congr fun i _ => wz_put l k v i
theorem jw_upd (k s f : Int) (j : Nat) : upd (upd (upd (upd (fun _ => 0) 0 1280199249) 1 k) 2 s) 3 f j = jw k s f nz j := by
  unfold upd jw nz
  by_cases h0 : j = 0
  · simp [h0]
  by_cases h1 : j = 1
  · simp [h1]
  by_cases h2 : j = 2
  · simp [h2]
  by_cases h3 : j = 3
  · simp [h3]
  simp [h0, h1, h2, h3]

set_option maxRecDepth 100000 in
set_option maxHeartbeats 1000000 in
theorem begin_any (k s f : Int) (w : World) (hk : 0 ≤ k ∧ k < 256) (hs : 0 ≤ s) (hf : 0 ≤ f) :
    Calls Tryd.prog 54 #[.int .u8 k, .int .u32 s, .int .u32 f] w fun e w' => e = .returned (bval (wz (jw k s f nz))) ∧ Below w.heap.size w w' := by
  obtain ⟨hk0, hk1⟩ := hk
  have hal := zero_block
  have hsa := fun W => run_sliceBlkAll (w.heap.size + 1) 0 W
  have hR : Hid (Blk ((w.alloc (.cells (Ks .u8 256 (fun _ => 0)).toArray 32)).alloc (.cells (Ks .u8 256 (fun _ => 0)).toArray 32)) w.heap.size 32 256 (fun _ => 0)) := (Blk.new _ _ _ _).alloc _
  have hB : Hid (Blk ((w.alloc (.cells (Ks .u8 256 (fun _ => 0)).toArray 32)).alloc (.cells (Ks .u8 256 (fun _ => 0)).toArray 32)) (w.heap.size + 1) 32 256 (wz (fun _ => 0))) := by
    have := Blk.new (w.alloc (.cells (Ks .u8 256 (fun _ => 0)).toArray 32)) 32 256 (fun _ => 0)
    simp only [World.size_alloc] at this
    exact this.congr fun i _ => (wz_zero i).symm
  have hL : Hid (Below w.heap.size w ((w.alloc (.cells (Ks .u8 256 (fun _ => 0)).toArray 32)).alloc (.cells (Ks .u8 256 (fun _ => 0)).toArray 32))) := ((Below.refl _ _).alloc (Nat.le_refl _) _).alloc (by simp) _
  go_enter Tryd.func54, Tryd.ntmps54
  go_wp2_with fail
  refine (putW (w.heap.size + 1) _ 0 0 1280199249 rfl (by omega) (by decide) _ hB.out).mono ?_
  rintro e w1 ⟨rfl, hB1, ho1⟩
  have hR1 : Blk w1 w.heap.size 32 256 (fun _ => 0) := hR.out.only ho1 (by omega)
  have hL1 : Below w.heap.size w w1 := hL.out.trans (ho1.below (by omega))
  clear hR hB hL ho1 hal
  go_wp2_with fail
  refine (putW (w.heap.size + 1) _ 1 4 k rfl (by omega) hk0 _ hB1).mono ?_
  rintro e w2 ⟨rfl, hB2, ho2⟩
  have hR2 := hR1.only ho2 (by omega)
  have hL2 : Below w.heap.size w w2 := hL1.trans (ho2.below (by omega))
  clear hR1 hB1 hL1 ho2
  go_wp2_with fail
  refine (putW (w.heap.size + 1) _ 2 8 s rfl (by omega) hs _ hB2).mono ?_
  rintro e w3 ⟨rfl, hB3, ho3⟩
  have hR3 := hR2.only ho3 (by omega)
  have hL3 : Below w.heap.size w w3 := hL2.trans (ho3.below (by omega))
  clear hR2 hB2 hL2 ho3
  go_wp2_with fail
  refine (putW (w.heap.size + 1) _ 3 12 f rfl (by omega) hf _ hB3).mono ?_
  rintro e w4 ⟨rfl, hB4, ho4⟩
  have hR4 := hR3.only ho4 (by omega)
  have hL4 : Below w.heap.size w w4 := hL3.trans (ho4.below (by omega))
  have hB5 := hB4.congr (y := wz (jw k s f nz)) fun i hi => wz_congr 64 (fun j _ => jw_upd k s f j) i hi
  clear hR3 hB3 hL3 ho4 hB4
  generalize hz : wz (jw k s f nz) = z at hB5
  have HZ := Lib.hid hz
  clear hz
  go_wp2_with (first | (refine wp_loadBlk rfl (.tmp 7) rfl (w.heap.size + 1) z rfl hB5 ?_) | (refine wp_storeBlk rfl (.tmp 6) (.tmp 20) rfl w.heap.size z _ rfl rfl hR4 ?_))
  intro w5 hR5 ho5
  go_wp2_with fail
  exact bodyPost_ret (results_blk rfl _ _ w.heap.size z rfl hR5) rfl ⟨by rw [HZ.out], hL4.trans (ho5.below (Nat.le_refl _))⟩
end Go.Proofs.YtnbmmhoofilmfaaDoor

/- The contract of inode.Put. -/
namespace Go.Proofs.YtnbmmhoofilmfaaDoor
open Go.RowKit Go.Shelf
set_option linter.unusedVariables false
attribute [local go_sem] Oper.semAt_some

/-- may x be put at a place? -/
def putOk (a : Int) (x : Ino) : Bool := placeB a && decide x.May
def putErr (a : Int) (x : Ino) : Int := if placeB a then (if decide x.May then 0 else 70) else 2
def putZ (z : Nat → Int) (a : Int) (x : Ino) : Nat → Int := if putOk a x then over z a.toNat 64 x.byte else z

end Go.Proofs.YtnbmmhoofilmfaaDoor

/- The contract of inode.Put, where the inode may be put. -/
namespace Go.Proofs.YtnbmmhoofilmfaaDoor
open Go.RowKit Go.Shelf
set_option linter.unusedVariables false
attribute [local go_sem] Oper.semAt_some

set_option maxRecDepth 100000 in
set_option maxHeartbeats 4000000 in
theorem inoPut_yes (g : Nat) (T : TypeId) (z : Nat → Int) (hz : Byt z) (a : Int) (x : Ino) (hx : x.Ok) (w : World) (hB : Blk w g T 256 z) (hok : putOk a x = true) :
    Calls Tryd.prog 42 #[.pointer (some ⟨g, 0, none⟩), .int .i64 a, x.val] w fun e w' => e = .returned (.int .i64 0) ∧ Blk w' g T 256 (over z a.toNat 64 x.byte) ∧ w.grownBy w' (some g) := by
  refine (callsIn_wide (n := 5)).1 (callsIn_of_wp_marks Tryd.func42 rfl trivial ?_ rfl)
  refine wpIn_wide.2 ?_
  simp only [Tryd.ntmps42, List.size_toArray, List.length_cons, List.length_nil, Nat.reduceAdd, Nat.reduceSub, Array.replicate_succ, Array.replicate_zero, List.push_toArray, List.append_toArray, List.nil_append, List.cons_append]
  unfold putOk at hok
  rw [Bool.and_eq_true] at hok
  obtain ⟨hp, hm⟩ := hok
  have hpl := (placeB_iff a).1 hp
  have hmay : x.May := of_decide_eq_true hm
  obtain ⟨hsz, hlk, hkd⟩ := Ino.may_bd hmay
  have HP := Lib.hid hp
  have HM := Lib.hid hm
  have HPL := Lib.hid hpl
  have ha0 : 0 ≤ a := by omega
  have ha1 : a ≤ 192 := by omega
  have hgl := hB.lt
  clear hp hm hpl hkd
  obtain ⟨i, rfl⟩ := Int.eq_ofNat_of_zero_le ha0
  obtain ⟨hl0, hl1⟩ := hlk
  go_wp2_with fail
  refine (place_any _ _ (by omega) (by omega)).mono ?_
  rintro e w1 ⟨rfl, rfl⟩
  rw [HP.out]
  go_wp2_with fail
  refine (may_any x hx _).mono ?_
  rintro e w2 ⟨rfl, hb2⟩
  rw [HM.out]
  simp only [World.size_alloc] at hb2
  have hI2 : InoAt w2 w.heap.size 88 x := (hb2.block _ (by omega)).trans (heap_alloc_new w _)
  have hB2 : Blk w2 g T 256 z := (hB.alloc _).below hb2 (by omega)
  have hg2 : w.grownBy w2 (some g) := grown_trans (World.grownBy_alloc w _ _) (by have := grown_below (row := some g) (a := w.alloc (.cells x.arr 88)) (b := w2) (by simp only [World.size_alloc]; exact hb2); exact this)
  have hs2 := hb2.size
  simp only [World.size_alloc] at hs2
  clear hb2 hB
  have hsl := fun W => run_sliceBlk g 0 i (i + 64) (i : Int) ((i : Int) + 64) rfl (by omega) (by omega) (by omega) (by omega) W
  simp only [Nat.zero_add, Nat.add_sub_cancel_left] at hsl
  have hsoft : Hid (∀ W off m, Blk W g T 256 z → Soft W g off m) := fun W off m h => h.soft off m
  go_wp2_with (first | (with_reducible refine wpList_clearB rfl (.tmp 27) 142 rfl 5 Tryd.underlying142 (fun _ => by kernel_rfl) g i 64 _ (fun k => z (i + k)) rfl (by omega) ?seg ?soft ?rest))
  case seg => have := (hB2.alloc (Obj.cells #[Value.slice (some ⟨g, i, none⟩) 64 (256 - i)] 142)).seg.sub i 64 (by omega); rwa [Nat.zero_add] at this
  case soft => exact (hB2.alloc _).soft i 64
  case' rest => intro w3 hp3
  have hB3 := (hB2.alloc (Obj.cells #[Value.slice (some ⟨g, i, none⟩) 64 (256 - i)] 142)).puts hp3
  have hO3 : Boxed w3 w2.heap.size 142 (.slice (some ⟨g, i, none⟩) 64 (256 - i)) := (hp3.only.block _ (by have := hB2.lt; omega)).trans (Boxed.new _ _ _)
  have hI3 : InoAt w3 w.heap.size 88 x := (hp3.only.block _ (by omega)).trans (heap_alloc_keep hI2 _)
  have hg3 : w.grownBy w3 (some g) := grown_trans (grown_trans hg2 (World.grownBy_alloc _ _ _)) (grown_only hp3.only)
  have hs3 : w3.heap.size = w2.heap.size + 1 := by rw [hp3.only.size]; simp
  clear hp3 hB2 hI2 hg2
  have HS3 := Lib.hid hs3
  clear hs3 hsoft
  have c1 := hO3.cell
  have c2 : w3.cell? ⟨w.heap.size, 0, none⟩ = some (.int .u8 x.kind) := hI3.cell (i := 0) rfl
  have c3 : w3.cell? ⟨g, i, none⟩ = some (.int .u8 (over z i 64 (fun _ => 0) i)) := by have := hB3.seg i (by omega); rwa [Nat.zero_add] at this
  have f3 : w3.frozen? ⟨g, i, none⟩ = false := soft_of_heap hB3 i
  have hB4 := hB3.setCell i x.kind (by omega)
  have hO := Only.setCell w3 ⟨g, i, none⟩ (.int .u8 x.kind)
  have hO4 : Boxed (w3.setCell ⟨g, i, none⟩ (.int .u8 x.kind)) w2.heap.size 142 (.slice (some ⟨g, i, none⟩) 64 (256 - i)) := (hO.block _ (by have := hB3.lt; simp; omega)).trans hO3
  have hI4 : InoAt (w3.setCell ⟨g, i, none⟩ (.int .u8 x.kind)) w.heap.size 88 x := (hO.block _ (by simp; omega)).trans hI3
  have hg4 : w.grownBy (w3.setCell ⟨g, i, none⟩ (.int .u8 x.kind)) (some g) := grown_trans hg3 (grown_only hO)
  have d1 := hO4.cell
  have d2 : (w3.setCell ⟨g, i, none⟩ (.int .u8 x.kind)).cell? ⟨w.heap.size, 1, none⟩ = some (.int .i64 x.links) := hI4.cell (i := 1) rfl
  go_wp2_with fail
  refine (put16_yes g i 64 _ 2 x.links _ _ (by omega) (by omega) (by omega) hl0 (by omega) (by have := hB4.seg.sub i 64 (by omega); rw [Nat.zero_add] at this; exact this) (hB4.soft i 64)).mono ?_
  rintro e w5 ⟨rfl, hp5⟩
  rw [show i + (2 : Int).toNat = i + 2 from rfl] at hp5
  have hB5 := hB4.puts hp5
  have hO5 : Boxed w5 w2.heap.size 142 (.slice (some ⟨g, i, none⟩) 64 (256 - i)) := (hp5.only.block _ (by have := hB3.lt; omega)).trans hO4
  have hI5 : InoAt w5 w.heap.size 88 x := (hp5.only.block _ (by omega)).trans hI4
  have hg5 : w.grownBy w5 (some g) := grown_trans hg4 (grown_only hp5.only)
  have hs5 : Hid (w5.heap.size = w2.heap.size + 1) := by show _ = _; rw [hp5.only.size, hO.size]; exact HS3.out
  have hB5 := hB5.congr (fun j _ => x.stage_zero z i j)
  clear hp5 c1 c2 c3 f3 hB4 hO hO4 hI4 hg4 d1 d2 hB3 hO3 hI3 hg3
  go_wp2_with fail
  refine (words_any w.heap.size _).mono ?_
  rintro e w6 ⟨rfl, rfl⟩
  go_wp2_with fail
  have hs5' : w2.heap.size + 1 ≤ w5.heap.size := Nat.le_of_eq hs5.out.symm
  have hlt5 : w.heap.size < w5.heap.size := by omega
  have hgl5 : g < w5.heap.size := hB5.lt
  refine wp_rangeIx (gf := 128) (lb := #[.pointer (some ⟨w5.heap.size, 0, none⟩)]) rfl (enters_of Tryd.func128 (by kernel_rfl) rfl)
    (words_iter 4 (by decide) w5.heap.size w.heap.size x hx hsz) (fun k => rfl)
    (fun k W => Boxed W w2.heap.size 142 (.slice (some ⟨g, i, none⟩) 64 (256 - i)) ∧ Blk W g T 256 (over z i 64 (x.stage k)) ∧ w.grownBy W (some g))
    (fun _ _ _ => False)
    (fun k => { tmps := #[.pointer (some ⟨g, 0, none⟩), .int .i64 (i : Int), x.val, undef, undef, .pointer (some ⟨w.heap.size, 0, none⟩), .int .i64 0, .pointer (some ⟨w2.heap.size, 0, none⟩), .int .i64 (4 + 4 * (k : Int)), .int .u32 (x.word k), .bool false, .pointer (some ⟨g, 0, none⟩), .bool false, .bool false, .int .i64 (i : Int), .bool true, .bool false, .bool false, .agg #[.int .u8 x.kind, .int .i64 x.links, .int .u32 x.gen, .int .i64 x.size, .int .u32 (x.p 0), .int .u32 (x.p 1), .int .u32 (x.p 2), .int .u32 (x.p 3), .int .u32 (x.p 4), .int .u32 (x.p 5), .int .u32 (x.p 6), .int .u32 (x.p 7), .int .u32 (x.p 8), .int .u32 (x.p 9), .int .u32 (x.p 10), .int .u32 x.next], .bool true, .bool false, .pointer (some ⟨g, 0, none⟩), .pointer (some ⟨g, 0, none⟩), .int .i64 (i : Int), .int .i64 (i : Int), .int .i64 ((i : Int) + 64), .slice (some ⟨g, i, none⟩) 64 (256 - i), .slice (some ⟨g, i, none⟩) 64 (256 - i), .slice (some ⟨g, i, none⟩) 64 (256 - i), .pointer (some ⟨w.heap.size, 0, none⟩), .int .u8 x.kind, .pointer (some ⟨g, i, none⟩), .slice (some ⟨g, i, none⟩) 64 (256 - i), .pointer (some ⟨w.heap.size, 1, none⟩), .int .i64 x.links, .int .u32 x.links, .bool true, .func (.func 128) #[] #[.pointer (some ⟨w5.heap.size, 0, none⟩)], .int .i64 (4 + 4 * (k : Int)), .int .u32 (x.word k), undef, undef, undef, undef], defers := [] })
    (fun k => (LocalP.boxed _ _ (by simp; omega)).and ((LocalP.heap _ (by simp; omega)).and (LocalP.grown _ (by simp; omega))))
    (fun c k => LocalP.pure _ _)
    (fun k => (LocalP.cell _ _ (by simp)).and (LocalP.heap _ (by simp; omega)))
    ⟨hO5.alloc _, hB5.alloc _, grown_trans hg5 (World.grownBy_alloc _ _ _)⟩
    ⟨(Boxed.new w5 163 (.pointer (some ⟨w.heap.size, 0, none⟩))).cell, heap_alloc_keep hI5 _⟩
    ?assign ?body ?done ?stop
  case assign =>
    intro l k W K hk hK
    dsimp only [wordEnc]
    gi_wp2
    exact hK
  case body =>
    rintro l k W hk ⟨h0, h1, h2⟩ hN
    have c0 := h0.cell
    have hwb := x.word_bd hx hsz k
    have hseg : Seg W g i 64 (fun j => over z i 64 (x.stage k) (i + j)) := by have := h1.seg.sub i 64 (by omega); rwa [Nat.zero_add] at this
    have hsoft := h1.soft i 64
    have hwb0 := hwb.1
    gi_wp2_with (refine ⟨trivial, ?_⟩; gi_at_call 88; refine (CallsIn.inRound l (callsIn_wide.2 (put32_yes g i 64 _ _ _ _ _ (by omega) (by omega) (by omega) hwb0 (by exact hseg) (by exact hsoft)))).mono ?_; rintro e W1 ⟨rfl, hp⟩)
    rw [show i + (4 + 4 * (k : Int)).toNat = i + (4 + 4 * k) by omega] at hp
    refine ⟨hp.only.keeps (hseg 0 (by omega)), ⟨(hp.only.block _ (by omega)).trans h0, (h1.puts hp).congr (fun j _ => x.stage_next z i k hk j), grown_trans h2 (grown_only hp.only)⟩, (hp.only.cell (p := ⟨w5.heap.size, 0, none⟩) (by simp; omega)).trans hN.1, (hp.only.block _ (by omega)).trans hN.2⟩
  case done =>
    rintro D W hD ⟨h0, h1, h2⟩ hK
    go_wp2_with fail
    refine bodyPostM_done (D := D) hK (results_tmp rfl _ _ _) ⟨rfl, ?_, ?_⟩
    · have : Blk (W.putObj D (.deferred none)) g T 256 (over z i 64 (x.stage 14)) := (World.putObj_heap_other (by simp at hD; omega)).trans h1
      refine this.congr (fun j _ => ?_)
      rw [Int.toNat_natCast]
      by_cases hj : i ≤ j ∧ j < i + 64
      · rw [over_in _ _ _ _ _ hj, over_in _ _ _ _ _ hj, x.stage_all]
      · rw [over_out _ _ _ _ _ (by omega), over_out _ _ _ _ _ (by omega)]
    · exact ⟨h2.os, h2.tape, h2.output, by simp [World.putObj]; exact h2.size, fun j hj hne => (World.putObj_heap_other (by simp at hD; omega)).trans (h2.block j hj hne)⟩
  case stop =>
    rintro D c k W hD hk h hK
    exact h.elim
end Go.Proofs.YtnbmmhoofilmfaaDoor

/- An inode read off bytes; an inode in memory, field by field. -/
namespace Go.Proofs.YtnbmmhoofilmfaaDoor
open Go.RowKit Go.Shelf
set_option linter.unusedVariables false

def Ino.nil : Ino := ⟨0, 0, 0, 0, fun _ => 0, 0⟩
/-- the inode that the bytes from i on say -/
def inoOf (z : Nat → Int) (i : Nat) : Ino := ⟨z i, g16 z (i + 2), g32 z (i + 4), g32 z (i + 8), fun k => g32 z (i + 12 + 4 * k), g32 z (i + 56)⟩
/-- .. its first k pointers alone, and no next -/
def inoAt' (z : Nat → Int) (i k : Nat) : Ino := ⟨z i, g16 z (i + 2), g32 z (i + 4), g32 z (i + 8), fun j => if j < k then g32 z (i + 12 + 4 * j) else 0, 0⟩
def getOkB (z : Nat → Int) (i : Nat) : Bool := z (i + 1) == 0 && (allZ (fun k => z (i + 60 + k)) 4 && decide (inoOf z i).May)
def getErr (z : Nat → Int) (a : Int) : Int := if placeB a then (if getOkB z a.toNat then 0 else 70) else 2
def getIno (z : Nat → Int) (a : Int) : Ino := if placeB a then (if getOkB z a.toNat then inoOf z a.toNat else .nil) else .nil

theorem inoOf_ok {z : Nat → Int} (hz : Byt z) (i : Nat) : (inoOf z i).Ok := by
  have h2 := g16_bd hz (i + 2)
  have h4 := g32_bd hz (i + 4)
  have h8 := g32_bd hz (i + 8)
  have h56 := g32_bd hz (i + 56)
  have h0 := hz i
  refine ⟨by simp only [inoOf]; omega, by simp only [inoOf]; omega, by simp only [inoOf]; omega, by simp only [inoOf]; omega, fun k => by have := g32_bd hz (i + 12 + 4 * k); simp only [inoOf]; omega, by simp only [inoOf]; omega⟩
theorem nil_ok : Ino.nil.Ok := by
  refine ⟨by simp [Ino.nil], by simp [Ino.nil], by simp [Ino.nil], by simp [Ino.nil], fun k => by simp [Ino.nil], by simp [Ino.nil]⟩
theorem getIno_ok {z : Nat → Int} (hz : Byt z) (a : Int) : (getIno z a).Ok := by
  unfold getIno
  split
  · split
    · exact inoOf_ok hz _
    · exact nil_ok
  · exact nil_ok
theorem heap_setCell_at {w : World} {g : Nat} {cs : Array Value} {T : TypeId} {fr : Nat × Nat} (h : w.heap[g]? = some (.cells cs T fr)) (j : Nat) (v : Value) : (w.setCell ⟨g, j, none⟩ v).heap[g]? = some (.cells (cs.setIfInBounds j v) T fr) := by
  have hlt := (Array.getElem?_eq_some_iff.1 h).1
  have hv := (Array.getElem?_eq_some_iff.1 h).2
  rw [Array.getElem?_eq_getElem (by simpa [World.setCell] using hlt)]
  simp only [World.setCell, Array.getElem_modify, hv, if_true]
  rfl
theorem InoAt.set {w : World} {g : Nat} {T : TypeId} {x y : Ino} (h : InoAt w g T x) (j : Nat) (v : Value) (hy : x.arr.setIfInBounds j v = y.arr) : InoAt (w.setCell ⟨g, j, none⟩ v) g T y := by
  have := heap_setCell_at h j v
  rw [hy] at this
  exact this
theorem arr_ptr (z : Nat → Int) (i k : Nat) (hk : k < 11) : (inoAt' z i k).arr.setIfInBounds (4 + k) (.int .u32 (g32 z (i + 12 + 4 * k))) = (inoAt' z i (k + 1)).arr := by
  obtain rfl | rfl | rfl | rfl | rfl | rfl | rfl | rfl | rfl | rfl | rfl : k = 0 ∨ k = 1 ∨ k = 2 ∨ k = 3 ∨ k = 4 ∨ k = 5 ∨ k = 6 ∨ k = 7 ∨ k = 8 ∨ k = 9 ∨ k = 10 := by omega
  all_goals rfl
theorem InoAt.new (w : World) (x : Ino) : InoAt (w.alloc (.cells x.arr 88)) w.heap.size 88 x := heap_alloc_new w _
theorem InoAt.alloc {w : World} {g : Nat} {T : TypeId} {x : Ino} (h : InoAt w g T x) (o : Obj) : InoAt (w.alloc o) g T x := heap_alloc_keep h o
theorem arr_one (x : Ino) : x.arr.all (·.oneCell') = true := by simp [Ino.arr, Value.oneCell']
theorem info_ino (x : Ino) : (Tryd.prog.info? 88).map (·.size) = some x.arr.size := by kernel_rfl
theorem wp_loadIno {w : World} {ops : Array Oper} {rest : List Oper} {o : Oper} {a : Act} {Q : Exit → Act → World → Prop} (hgd : o.guard = none) (p : Operand) (ho : o.op = .load 88 p)
    (g : Nat) (x : Ino) (hx : a.eval p = .pointer (some ⟨g, 0, none⟩)) (hI : InoAt w g 88 x)
    (h : wpList Tryd.prog ops Q rest (a.put o.dst x.val) w) : wpList Tryd.prog ops Q (o :: rest) a w :=
  wpList_load_row hgd 88 p ho g hx 88 x.arr (0, 0) _ hI Tryd.underlying88 rfl (info_ino x) h
theorem wp_storeIno {w : World} {ops : Array Oper} {rest : List Oper} {o : Oper} {a : Act} {Q : Exit → Act → World → Prop} (hgd : o.guard = none) (p q : Operand) (ho : o.op = .store 88 p q)
    (g : Nat) (x old : Ino) (hx : a.eval p = .pointer (some ⟨g, 0, none⟩)) (hy : a.eval q = x.val) (hI : InoAt w g 88 old)
    (h : ∀ w', InoAt w' g 88 x → Only g w w' → wpList Tryd.prog ops Q rest (a.put o.dst undef) w') : wpList Tryd.prog ops Q (o :: rest) a w :=
  wpList_store_row hgd 88 p q ho g x.arr hx hy 88 _ hI (info_ino x) rfl (arr_one x) (h _ (setRow_heap w g _ x.arr _ _ hI) (only_setRow w g _ hI rfl))
theorem zero_ino (W : World) : (zeroValue 88).run Tryd.prog W = .ok (.agg Ino.nil.arr) W := by kernel_rfl
theorem results_ino {fn : Func} {p u : Tmp} (h : fn.results = #[.cell p 88, .tmp u]) (tmps : Array Value) (w : World) (g : Nat) (x : Ino)
    (hp : tmps.getD p undef = .pointer (some ⟨g, 0, none⟩)) (hg : InoAt w g 88 x) : (results fn tmps).run Tryd.prog w = .ok (.tuple #[x.val, tmps.getD u undef]) w :=
  results_row_tmp h tmps w g _ x.arr (0, 0) _ hp hg Tryd.underlying88 rfl (info_ino x)
end Go.Proofs.YtnbmmhoofilmfaaDoor
