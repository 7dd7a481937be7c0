/- Texts of this claim, merged by a program (a claim may have 60 files): Bar, Store, New, S8a, Jb6, Jb7, Same9, Jb8, Jb9, Sizes, Pk0, R9a, R9f, R9h, R9i, R9j, R9b, R9c, R9k, R9l. -/
import Derived.Test.YtnbmmhoofilmfaaGreatDoorK06
import Derived.Lib.Strings
import Derived.Lib.Slices
import Derived.Lib.Walk
import Derived.Lib.Bytealg
import Derived.Test.YtnbmmhoofilmfaaGreatDoorK08
import Derived.Laws.OwnMore
import Derived.Test.YtnbmmhoofilmfaaGreatDoorRows
import Derived.Test.YtnbmmhoofilmfaaGreatDoorK01
import Derived.WalkKit
import Derived.ProofKit
import Derived.OpenShut
import Derived.Outline
import Derived.Lib.Hide
import Derived.Test.YtnbmmhoofilmfaaGreatDoorK07
import Derived.Test.YtnbmmhoofilmfaaGreatDoorK13
import Derived.Test.YtnbmmhoofilmfaaGreatDoorK02
/- A drawn region in two phases: the first n operations in whatever order, each quiet in a class of worlds; the others wait for all that stand ahead of them, so they come one behind the other. No program in sight. -/
namespace Go.Proofs.YtnbmmhoofilmfaaGreatDoor
open Go.RowKit
set_option linter.unusedVariables false

section
variable {P : Program} {md : Region.Mode} {ops : Array Oper}
end
end Go.Proofs.YtnbmmhoofilmfaaGreatDoor

/- A store of one cell; a byte stored into a block. -/
namespace Go.Proofs.YtnbmmhoofilmfaaGreatDoor
open Go.RowKit
set_option linter.unusedVariables false

section
variable {P : Program}
theorem run_storeVar1 (w : World) (b off : Nat) (ty : TypeId) (u v : Value) (hc : w.cell? ⟨b, off, none⟩ = some u) (hf : w.frozen? ⟨b, off, none⟩ = false) (hi : (P.info? ty).map (·.size) = some 1) (h1 : v.oneCell' = true) :
    (storeVar ty ⟨b, off, none⟩ v).run P w = .ok () (w.setCell ⟨b, off, none⟩ v) := by
  have hv : v.cells = #[v] := by cases v <;> first | rfl | cases h1
  have hst : (store ⟨b, off, none⟩ v).run P w = .ok () (w.setCell ⟨b, off, none⟩ v) := by rw [run_store P w _ _ _ h1, hc]; simp [hf]
  cases hq : P.info? ty with
  | none => simp [hq] at hi
  | some i =>
    have hs : i.size = 1 := by simpa [hq] using hi
    simp [storeVar, sizeOf, typeInfo, hq, hv, hs, storeCells, addr_add, hst]
theorem wp_store1 {ops : Array Oper} {rest : List Oper} {o : Oper} {a : Act} {w : World} {Q : Exit → Act → World → Prop} (hgd : o.guard = none) (ty : TypeId) (x y : Operand) (ho : o.op = .store ty x y)
    (b off : Nat) (v : Value) (hx : a.eval x = .pointer (some ⟨b, off, none⟩)) (hy : a.eval y = v) (u : Value) (hc : w.cell? ⟨b, off, none⟩ = some u) (hf : w.frozen? ⟨b, off, none⟩ = false) (hi : (P.info? ty).map (·.size) = some 1) (h1 : v.oneCell' = true)
    (h : wpList P ops Q rest (a.put o.dst undef) (w.setCell ⟨b, off, none⟩ v)) : wpList P ops Q (o :: rest) a w :=
  wpList_plain hgd fun _ hK => by
    unfold Oper.wp execOp
    simp only [ho, hx, hy, Instr.storeAt, Instr.sureAddr, Sem.run_bind, Sem.run_pure, Result.andThen_ok, run_storeVar1 w b off ty u v hc hf hi h1]
    exact hK _ _ h
end
theorem info_u8 : (Tryz.prog.info? 5).map (·.size) = some 1 := by kernel_rfl
/-- a byte of a block is stored -/
theorem wp_storeByte {ops : Array Oper} {rest : List Oper} {o : Oper} {a : Act} {w : World} {Q : Exit → Act → World → Prop} (hgd : o.guard = none) (x y : Operand) (ho : o.op = .store 5 x y)
    (b off : Nat) (v : Int) (hx : a.eval x = .pointer (some ⟨b, off, none⟩)) (hy : a.eval y = .int .u8 v) {T : TypeId} {n : Nat} {z : Nat → Int} (hB : Blk w b T n z) (hn : off < n)
    (h : ∀ w', Blk w' b T n (over z off 1 (fun _ => v)) → Only b w w' → wpList Tryz.prog ops Q rest (a.put o.dst undef) w') : wpList Tryz.prog ops Q (o :: rest) a w :=
  wp_store1 hgd 5 x y ho b off _ hx hy _ (by have := hB.seg off hn; rwa [Nat.zero_add] at this) (soft_of_heap hB off) info_u8 rfl (h _ (hB.setCell off v hn) (Only.setCell w ⟨b, off, none⟩ _))
end Go.Proofs.YtnbmmhoofilmfaaGreatDoor

/- A drawn region that makes one new variable at whatever time: the first n operations in whatever order, each quiet in a class of worlds that grows, the making of a variable among them, and behind them all the others, one behind the other. No program in sight. -/
namespace Go.Proofs.YtnbmmhoofilmfaaGreatDoor
open Go.RowKit
set_option linter.unusedVariables false

def Cl (R : World → Prop) : Prop := ∀ W W', R W → Below W.heap.size W W' → R W'
section
variable {P : Program} {md : Region.Mode} {ops ops1 : Array Oper} {S : World → Prop} {A : Act}

variable {n d : Nat} {al : Oper} {l2 : List Oper} {T : TypeId} {cs : Array Value} {Q : Exit → Act → World → Prop} {base : Nat}

end
end Go.Proofs.YtnbmmhoofilmfaaGreatDoor

/- strings.IndexByte, slots.MayName. -/
namespace Go.Proofs.YtnbmmhoofilmfaaGreatDoor
open Go.RowKit
set_option linter.unusedVariables false

set_option maxHeartbeats 1000000 in
set_option maxRecDepth 100000 in
theorem lite_IndexByte (s : ByteArray) (c : Int) (w : World) :
    Calls Tryz.prog 228 #[.string s, .int .u8 c] w fun e w' => e = .returned (.int .i64 (Lib.indexByte s.data.toList c.toNat.toUInt8)) ∧ w' = w := by
  go_enter Tryz.func228, Tryz.ntmps228
  go_wp2
  rw [run_callFunc_extern Tryz.func233 (by kernel_rfl) (by kernel_rfl) (by kernel_rfl) (e := Extern.BytealgIndexByte.indexByte) (by kernel_rfl), Lib.run_indexByteString]
  simp only [Result.andThen]
  rw [Oper.upon_value]
  go_wp2
  go_ret
  exact ⟨rfl, rfl⟩
set_option maxHeartbeats 1000000 in
theorem strings_IndexByte (s : ByteArray) (c : Int) (w : World) :
    Calls Tryz.prog 212 #[.string s, .int .u8 c] w fun e w' => e = .returned (.int .i64 (Lib.indexByte s.data.toList c.toNat.toUInt8)) ∧ w' = w := by
  go_enter Tryz.func212, Tryz.ntmps212
  go_wp2_with fail
  refine (lite_IndexByte _ _ _).mono ?_
  rintro e w' ⟨rfl, rfl⟩
  go_wp2_with fail
  go_ret
  exact ⟨rfl, rfl⟩

/-- may a name be? -/
def mayL (l : List UInt8) : Bool := decide (1 ≤ l.length) && (decide (l.length ≤ 27) && (l != [46] && (l != [46, 46] && (!l.contains 47 && !l.contains 0))))
def mayB (s : ByteArray) : Bool := mayL s.data.toList
theorem indexByte_neg (l : List UInt8) (c : UInt8) : decide (Lib.indexByte l c < 0) = !l.contains c := by
  induction l with
  | nil => rfl
  | cons b l ih =>
    have hge := Lib.indexByte_ge l c
    unfold Lib.indexByte
    by_cases hb : (b == c) = true
    · have : b = c := by simpa using hb
      subst this; simp
    · have hb' : (b == c) = false := by simpa using hb
      have hcb : (c == b) = false := by rw [beq_eq_false_iff_ne] at hb' ⊢; exact fun h => hb' h.symm
      rw [List.contains_cons, hcb, Bool.false_or, ← ih, hb']
      simp only [Bool.false_eq_true, if_false]
      split
      · rename_i h1; have h2 := beq_iff_eq.1 h1; rw [h2]
      · rename_i h1
        have : Lib.indexByte l c ≠ -1 := by simpa using h1
        rw [decide_eq_false (by omega), decide_eq_false (by omega)]
set_option maxHeartbeats 1000000 in
theorem mayName_any (s : ByteArray) (hs : s.size ≤ 9223372036854775807) (w : World) : Calls Tryz.prog 198 #[.string s] w fun e w' => e = .returned (.bool (mayB s)) ∧ w = w' := by
  have hsz : s.size = s.toList.length := by rw [ByteArray.toList_eq]; rfl
  have hM : mayB s = (decide (1 ≤ s.toList.length) && (decide (s.toList.length ≤ 27) && (s.toList != [46] && (s.toList != [46, 46] && (!s.toList.contains 47 && !s.toList.contains 0))))) := by unfold mayB mayL; rw [ByteArray.toList_eq]
  have HM := Lib.hid hM
  have HZ := Lib.hid hsz
  clear hM hsz
  go_enter Tryz.func198, Tryz.ntmps198
  by_cases h1 : 1 ≤ s.size
  rotate_left
  · have d1 : (s.size : Int) < 1 := by omega
    have HN : Hid (mayB s = false) := by show _ = _; rw [HM.out, ← HZ.out, decide_eq_false h1]; rfl
    go_wp2_with fail
    go_ret
    exact ⟨by rw [HN.out]; rfl, rfl⟩
  have d1 : ¬ (s.size : Int) < 1 := by omega
  by_cases h2 : s.size ≤ 27
  rotate_left
  · have d2 : (27 : Int) < s.size := by omega
    have HN : Hid (mayB s = false) := by show _ = _; rw [HM.out, ← HZ.out, decide_eq_false h2]; simp
    go_wp2_with fail
    go_ret
    exact ⟨by rw [HN.out]; rfl, rfl⟩
  have d2 : ¬ (27 : Int) < s.size := by omega
  cases h3 : s.toList == [46] with
  | true =>
    have HN : Hid (mayB s = false) := by show _ = _; rw [HM.out, bne, h3]; simp
    go_wp2_with fail
    go_ret
    exact ⟨by rw [HN.out]; rfl, rfl⟩
  | false =>
  cases h4 : s.toList == [46, 46] with
  | true =>
    have HN : Hid (mayB s = false) := by show _ = _; rw [HM.out, bne, bne, h4]; simp
    go_wp2_with fail
    go_ret
    exact ⟨by rw [HN.out]; rfl, rfl⟩
  | false =>
  have HY : Hid (mayB s = (!s.data.toList.contains 47 && !s.data.toList.contains 0)) := by
    show _ = _
    rw [HM.out, ← HZ.out, bne, bne, h3, h4, decide_eq_true h1, decide_eq_true h2, ByteArray.toList_eq]; rfl
  go_wp2_with fail
  refine (strings_IndexByte _ _ _).mono ?_
  rintro e w' ⟨rfl, rfl⟩
  have e1 := indexByte_neg s.data.toList 47
  have e2 := indexByte_neg s.data.toList 0
  rw [show ((47 : Int).toNat.toUInt8) = 47 from rfl]
  generalize Lib.indexByte s.data.toList 47 = k1 at *
  cases hc : s.data.toList.contains 47 with
  | true =>
    rw [hc] at e1 HY
    have q : ¬ k1 < 0 := by simpa using e1
    clear e1 hc
    go_wp2_with fail
    go_ret
    exact ⟨by rw [HY.out]; rfl, rfl⟩
  | false =>
    rw [hc] at e1 HY
    have q : k1 < 0 := by simpa using e1
    clear e1 hc
    go_wp2_with fail
    refine (strings_IndexByte _ _ _).mono ?_
    rintro e w' ⟨rfl, rfl⟩
    rw [show ((0 : Int).toNat.toUInt8) = 0 from rfl]
    generalize Lib.indexByte s.data.toList 0 = k2 at *
    have E2 := Lib.hid e2
    clear e2
    go_wp2_with fail
    go_ret
    exact ⟨by rw [HY.out, ← E2.out]; rfl, rfl⟩
end Go.Proofs.YtnbmmhoofilmfaaGreatDoor

/- Contracts of jblock.ReadHead, of writeRows over numbers, and of WriteRevoke. -/
namespace Go.Proofs.YtnbmmhoofilmfaaGreatDoor
open Go.RowKit
set_option linter.unusedVariables false

/-- the rows of the first k numbers -/
def numR (m : Nat → Int) (k : Nat) (j : Nat) : Int := if j < k then m j else 0
def revOk (s : Int) (n : Nat) (m : Nat → Int) : Bool := seqB s && (decide (1 ≤ n ∧ n ≤ 60) && riseB m n)
def revZ (s : Int) (n : Nat) (m : Nat → Int) : Nat → Int := if revOk s n m then wz (jw 3 s n (numR m n)) else fun _ => 0
/-- the head that a block tells -/
def hdS (z : Nat → Int) : Int := if headRd z then seqOf z else 0
def hdT (z : Nat → Int) : Int := if headRd z then wd z 3 else 0
theorem zero_head (W : World) : (zeroValue 83).run Tryz.prog W = .ok (.agg #[.int .u32 0, .int .i64 0]) W := by kernel_rfl
theorem info_head (s t : Int) : (Tryz.prog.info? 83).map (·.size) = some (#[Value.int .u32 s, .int .i64 t] : Array Value).size := by kernel_rfl
theorem one_head (s t : Int) : (#[Value.int .u32 s, .int .i64 t] : Array Value).all (·.oneCell') = true := by simp [Value.oneCell']
theorem results_head {fn : Func} {p u : Tmp} (h : fn.results = #[.cell p 83, .tmp u]) (tmps : Array Value) (w : World) (g : Nat) (s t : Int)
    (hp : tmps.getD p undef = .pointer (some ⟨g, 0, none⟩)) (hg : At w g 83 #[.int .u32 s, .int .i64 t]) : (results fn tmps).run Tryz.prog w = .ok (.tuple #[.agg #[.int .u32 s, .int .i64 t], tmps.getD u undef]) w :=
  results_row_tmp h tmps w g 83 _ (0, 0) _ hp hg Tryz.underlying83 rfl (info_head _ _)

set_option maxRecDepth 100000 in
set_option maxHeartbeats 2000000 in
theorem readHead_any (z : Nat → Int) (hz : Byt z) (w : World) :
    Calls Tryz.prog 71 #[bval z] w fun e w' => e = .returned (.tuple #[.agg #[.int .u32 (hdS z), .int .i64 (hdT z)], .int .i64 (errOf (headRd z) 90)]) ∧ Below w.heap.size w w' := by
  have hal := zero_head
  have hB0 : Hid (Blk ((w.alloc (.cells (Ks .u8 256 z).toArray 32)).alloc (.cells #[.int .u32 0, .int .i64 0] 83)) w.heap.size 32 256 z) := (Blk.new _ _ _ _).alloc _
  have hR0 : Hid (At ((w.alloc (.cells (Ks .u8 256 z).toArray 32)).alloc (.cells #[.int .u32 0, .int .i64 0] 83)) (w.heap.size + 1) 83 #[.int .u32 0, .int .i64 0]) := by
    have := At.new (w.alloc (.cells (Ks .u8 256 z).toArray 32)) 83 #[.int .u32 0, .int .i64 0]
    simp only [World.size_alloc] at this
    exact this
  have hL0 : Hid (Below w.heap.size w ((w.alloc (.cells (Ks .u8 256 z).toArray 32)).alloc (.cells #[.int .u32 0, .int .i64 0] 83))) := ((Below.refl _ _).alloc (Nat.le_refl _) _).alloc (by simp) _
  obtain ⟨hw30, hw31⟩ := wd_wds hz 3
  have hBB := hB0.out
  go_enter Tryz.func71, Tryz.ntmps71
  go_wp2_with (first | (refine wp_loadBlk rfl (.tmp 1) rfl w.heap.size z rfl hBB ?_))
  refine (kind_any z hz _).mono ?_
  rintro e w1 ⟨rfl, hb1⟩
  have hB1 := hB0.out.below hb1 hB0.out.lt
  have hR1 := hR0.out.below hb1 hR0.out.lt
  have hL1 : Below w.heap.size w w1 := hL0.out.trans (hb1.mono hL0.out.size)
  clear hB0 hR0 hL0 hb1 hBB
  go_wp2_with fail
  refine (numW w.heap.size z hz 3 12 rfl (by omega) _ hB1).mono ?_
  rintro e w2 ⟨rfl, rfl⟩
  by_cases hk : kindOf z = 4
  rotate_left
  · have q : (kindOf z != 4) = true := by simpa using hk
    have HN : Hid (headRd z = false) := by show _ = _; unfold headRd; simp [hk]
    clear hk
    generalize kindOf z = k at q ⊢
    go_wp2_with (first | (refine wp_storeAt rfl 83 (.tmp 2) (.tmp 24) rfl (w.heap.size + 1) #[.int .u32 0, .int .i64 0] _ rfl rfl hR1 (info_head _ _) rfl (one_head _ _) ?_))
    intro w3 hR3 ho3
    go_wp2_with fail
    exact bodyPost_ret (results_head rfl _ _ (w.heap.size + 1) 0 0 rfl hR3) rfl ⟨by rw [hdS, hdT, HN.out]; rfl, hL1.trans (ho3.below (by omega))⟩
  have HK := Lib.hid hk
  rw [hk]
  clear hk
  by_cases h2 : wd z 3 ≤ 255
  rotate_left
  · have HN : Hid (headRd z = false) := by show _ = _; unfold headRd; simp [h2]
    go_wp2_with (first | (refine wp_storeAt rfl 83 (.tmp 2) (.tmp 24) rfl (w.heap.size + 1) #[.int .u32 0, .int .i64 0] _ rfl rfl hR1 (info_head _ _) rfl (one_head _ _) ?_))
    intro w3 hR3 ho3
    go_wp2_with fail
    exact bodyPost_ret (results_head rfl _ _ (w.heap.size + 1) 0 0 rfl hR3) rfl ⟨by rw [hdS, hdT, HN.out]; rfl, hL1.trans (ho3.below (by omega))⟩
  have hsl := fun W => run_sliceBlkFrom w.heap.size 16 16 rfl (by omega) W
  have hrow : Hid (Row w1 (some ⟨w.heap.size, 16, none⟩) (256 - 16) (fun j => z (16 + j))) := .inr ⟨_, _, rfl, by have := hB1.seg.sub 16 240 (by omega); rwa [Nat.zero_add] at this⟩
  go_wp2_with fail
  refine (zero_any _ _ _ _ _ (by omega) (by exact hrow.out)).mono ?_
  rintro e w3 ⟨rfl, rfl⟩
  clear hsl hrow
  have HZ : Hid (allZ (fun j => z (16 + j)) (256 - 16) = allZ (fun j => wd z (4 + j)) 60) := allZ_wd hz 4 60
  rw [HZ.out]
  by_cases hzz : allZ (fun j => wd z (4 + j)) 60 = true
  rotate_left
  · rw [Bool.not_eq_true] at hzz
    have HN : Hid (headRd z = false) := by show _ = _; unfold headRd; rw [hzz]; simp
    rw [hzz]
    clear hzz
    go_wp2_with (first | (refine wp_storeAt rfl 83 (.tmp 2) (.tmp 24) rfl (w.heap.size + 1) #[.int .u32 0, .int .i64 0] _ rfl rfl hR1 (info_head _ _) rfl (one_head _ _) ?_))
    intro w3 hR3 ho3
    go_wp2_with fail
    exact bodyPost_ret (results_head rfl _ _ (w.heap.size + 1) 0 0 rfl hR3) rfl ⟨by rw [hdS, hdT, HN.out]; rfl, hL1.trans (ho3.below (by omega))⟩
  have HY : Hid (headRd z = true) := by show _ = _; unfold headRd; rw [HK.out, hzz]; simp [h2]
  rw [hzz]
  clear hzz
  go_wp2_with (first | (refine wp_storeAt rfl 83 (.tmp 2) (.tmp 28) rfl (w.heap.size + 1) #[.int .u32 (seqOf z), .int .i64 (wd z 3)] _ rfl rfl hR1 (info_head _ _) rfl (one_head _ _) ?_))
  intro w3 hR3 ho3
  go_wp2_with fail
  exact bodyPost_ret (results_head rfl _ _ (w.heap.size + 1) (seqOf z) (wd z 3) rfl hR3) rfl ⟨by rw [hdS, hdT, HY.out]; rfl, hL1.trans (ho3.below (by omega))⟩
end Go.Proofs.YtnbmmhoofilmfaaGreatDoor

/- The contract of jblock.readRows over numbers, and of ReadRevoke. -/
namespace Go.Proofs.YtnbmmhoofilmfaaGreatDoor
open Go.RowKit
set_option linter.unusedVariables false

/-- how many rows a block tells -/
def rowsN (z : Nat → Int) : Nat := (wd z 3).toNat
def revM (z : Nat → Int) : Nat → Int := fun i => wd z (4 + i)
def revRd (z : Nat → Int) : Bool := kindOf z == 3 && (decide (1 ≤ wd z 3 ∧ wd z 3 ≤ 60) && (riseB (revM z) (rowsN z) && allZ (fun j => wd z (4 + rowsN z + j)) (60 - rowsN z)))
theorem own_form {W : World} {base k : Nat} {e : TypeId} {size : Nat} {v : Value} {xs : List Value} (h : W.ownsRow base e size v (k + 1) xs) : ∃ g cap, v = .slice (some ⟨g, 0, none⟩) (k + 1) cap := by
  rcases h.2 with ⟨_, h0⟩ | ⟨g', cap', cur, hv, _⟩
  · omega
  · exact ⟨g', cap', hv⟩
end Go.Proofs.YtnbmmhoofilmfaaGreatDoor

/- Contract of quernref09.SameNumbers; rows of tags of one's own. -/
namespace Go.Proofs.YtnbmmhoofilmfaaGreatDoor
open Go.RowKit
set_option linter.unusedVariables false

end Go.Proofs.YtnbmmhoofilmfaaGreatDoor

/- The contract of jblock.readRows over tags, and of ReadDesc. -/
namespace Go.Proofs.YtnbmmhoofilmfaaGreatDoor
open Go.RowKit
set_option linter.unusedVariables false

def descT (z : Nat → Int) : Nat → Int := fun i => wd z (4 + 2 * i)
def jdE (z : Nat → Int) : Nat → Bool := fun i => wd z (5 + 2 * i) == 1
/-- the first k rows are right -/
def descB (z : Nat → Int) : Nat → Bool
  | 0 => true
  | k + 1 => descB z k && (decide (wd z (5 + 2 * k) ≤ 1) && (k == 0 || decide (descT z (k - 1) < descT z k)))
def descRd (z : Nat → Int) : Bool := kindOf z == 1 && (decide (1 ≤ wd z 3 ∧ wd z 3 ≤ 30) && (descB z (rowsN z) && allZ (fun j => wd z (4 + 2 * rowsN z + j)) (60 - 2 * rowsN z)))
end Go.Proofs.YtnbmmhoofilmfaaGreatDoor

/- The contract of jblock.readRows over tags, and of ReadDesc: the walk. -/
namespace Go.Proofs.YtnbmmhoofilmfaaGreatDoor
open Go.RowKit
set_option linter.unusedVariables false

end Go.Proofs.YtnbmmhoofilmfaaGreatDoor

/- Contracts of pack.Size and quernref15.Size: both answer the same number for any two integers. Conditions: none. -/
namespace Go.Proofs.YtnbmmhoofilmfaaGreatDoor
open Go.RowKit

def sizeOf (c r : Int) : Int :=
  if c < 0 ∨ r < 0 ∨ 2048 < c ∨ 2048 < r ∨ (c = 0 ∧ r = 0) then 0 else c + (c + 29) / 30 + (r + 59) / 60 + 1

end Go.Proofs.YtnbmmhoofilmfaaGreatDoor

/- Transactions and their blocks, plainly. -/
namespace Go.Proofs.YtnbmmhoofilmfaaGreatDoor
open Go.RowKit
set_option linter.unusedVariables false

/-- a transaction, plainly: its number; n copies: their blocks, their bytes; m revoked blocks -/
structure Tr where
  s : Int
  n : Nat
  cb : Nat → Int
  cd : Nat → Nat → Int
  m : Nat
  rv : Nat → Int
/-- its numbers fit their kinds -/
structure Tr.Ok (t : Tr) : Prop where
  s : 0 ≤ t.s ∧ t.s < 4294967296
  cb : ∀ i, -9223372036854775808 ≤ t.cb i ∧ t.cb i ≤ 9223372036854775807
  cd : ∀ i, Byt (t.cd i)
  rv : ∀ i, -9223372036854775808 ≤ t.rv i ∧ t.rv i ≤ 9223372036854775807
  n : (t.n : Int) ≤ 9223372036854775807
  m : (t.m : Int) ≤ 9223372036854775807
  cb0 : ∀ i, t.n ≤ i → t.cb i = 0
  rv0 : ∀ i, t.m ≤ i → t.rv i = 0
/-- numbers of blocks that rise -/
def riseT (b : Nat → Int) : Nat → Bool
  | 0 => true
  | i + 1 => riseT b i && (decide ((if i = 0 then -1 else b (i - 1)) < b i) && decide (b i < 2048))
/-- may it be a transaction? -/
def mayT (s : Int) (n : Nat) (cb : Nat → Int) (m : Nat) (rv : Nat → Int) : Bool := seqB s && (decide (0 < n + m) && (riseT cb n && riseT rv m))
def Tr.may (t : Tr) : Bool := mayT t.s t.n t.cb t.m t.rv
/-- how many blocks the copies have; how many the revoked ones; how many stand ahead of the commit -/
def dN (n : Nat) : Nat := n + (n + 29) / 30
def rN (m : Nat) : Nat := (m + 59) / 60
def Tr.c (t : Tr) : Nat := dN t.n + rN t.m
/-- the blocks ahead of the commit -/
def pk0 (t : Tr) (i : Nat) : Nat → Int :=
  if i < dN t.n then
    if i % 31 = 0 then jdZ t.s (min 30 (t.n - 30 * (i / 31))) (fun k => t.cb (30 * (i / 31) + k)) (fun k => escB (t.cd (30 * (i / 31) + k)))
    else escZ (t.cd (30 * (i / 31) + (i % 31 - 1)))
  else revZ t.s (min 60 (t.m - 60 * (i - dN t.n))) (fun k => t.rv (60 * (i - dN t.n) + k))
/-- the sum over so many blocks -/
def crcB (B : Nat → Nat → Int) (k : Nat) : Int := ((4294967295 - foldP 4294967295 (fun _ => 256) B k : Nat) : Int)
def pkB (t : Tr) (i : Nat) : Nat → Int := if i < t.c then pk0 t i else commitZ t.s t.c (crcB (pk0 t) t.c)
def Tr.size (t : Tr) : Int := sizeOf t.n t.m
def packE (t : Tr) : Int := if t.may then (if t.size ≤ 255 then 0 else 4) else 150
/-- a copy's cells; rows of copies, of blocks, of numbers -/
abbrev cpc (b : Int) (z : Nat → Int) : List Value := .int .i64 b :: Ks .u8 256 z
def cpF (cb : Nat → Int) (cd : Nat → Nat → Int) (i : Nat) : List Value := cpc (cb i) (cd i)
def bkF (B : Nat → Nat → Int) (i : Nat) : List Value := Ks .u8 256 (B i)
def inF (b : Nat → Int) (i : Nat) : List Value := [.int .i64 (b i)]
theorem cpc_len (b : Int) (z : Nat → Int) : (cpc b z).length = 257 := by simp [Ks]
theorem cpF_len (cb : Nat → Int) (cd : Nat → Nat → Int) (i : Nat) : (cpF cb cd i).length = 257 := cpc_len _ _
theorem bkF_len (B : Nat → Nat → Int) (i : Nat) : (bkF B i).length = 256 := by simp [bkF, Ks]
theorem inF_len (b : Nat → Int) (i : Nat) : (inF b i).length = 1 := rfl
theorem RSeg.alloc {w : World} {b off m n : Nat} {f : Nat → List Value} (h : RSeg w b off m n f) (o : Obj) : RSeg (w.alloc o) b off m n f := fun i hi j v hv => by
  have h1 := h i hi j v hv
  have := World.block_lt_of_cell? w _ h1
  rw [World.cell?_of_block (w := w) (Below.heap_alloc w o b this)]; exact h1
theorem RRow.alloc {w : World} {a : Option Addr} {m n : Nat} {f : Nat → List Value} (h : RRow w a m n f) (o : Obj) : RRow (w.alloc o) a m n f := by
  rcases h with h | ⟨b, off, rfl, h⟩
  · exact .inl h
  · exact .inr ⟨b, off, rfl, h.alloc o⟩
end Go.Proofs.YtnbmmhoofilmfaaGreatDoor

/- Contracts of quernref09.block, WriteHead and WriteCommit. -/
namespace Go.Proofs.YtnbmmhoofilmfaaGreatDoor
open Go.RowKit
set_option linter.unusedVariables false

end Go.Proofs.YtnbmmhoofilmfaaGreatDoor

/- Contracts of quernref09.at, begins and Unescape. -/
namespace Go.Proofs.YtnbmmhoofilmfaaGreatDoor
open Go.RowKit
set_option linter.unusedVariables false

end Go.Proofs.YtnbmmhoofilmfaaGreatDoor

/- The contract of quernref09.Kind. -/
namespace Go.Proofs.YtnbmmhoofilmfaaGreatDoor
open Go.RowKit
set_option linter.unusedVariables false

end Go.Proofs.YtnbmmhoofilmfaaGreatDoor

/- The contract of quernref09.ReadCommit. -/
namespace Go.Proofs.YtnbmmhoofilmfaaGreatDoor
open Go.RowKit
set_option linter.unusedVariables false

end Go.Proofs.YtnbmmhoofilmfaaGreatDoor

/- Contracts of quernref09.ReadHead and Escape. -/
namespace Go.Proofs.YtnbmmhoofilmfaaGreatDoor
open Go.RowKit
set_option linter.unusedVariables false

end Go.Proofs.YtnbmmhoofilmfaaGreatDoor

/- Contracts of quernref09.WriteHead and WriteCommit. -/
namespace Go.Proofs.YtnbmmhoofilmfaaGreatDoor
open Go.RowKit
set_option linter.unusedVariables false

theorem nz_wds' : Wds nz := fun _ => by unfold nz; decide
end Go.Proofs.YtnbmmhoofilmfaaGreatDoor

/- The contract of quernref09.WriteRevoke. -/
namespace Go.Proofs.YtnbmmhoofilmfaaGreatDoor
open Go.RowKit
set_option linter.unusedVariables false

end Go.Proofs.YtnbmmhoofilmfaaGreatDoor

/- The contract of quernref09.ReadRevoke. -/
namespace Go.Proofs.YtnbmmhoofilmfaaGreatDoor
open Go.RowKit
set_option linter.unusedVariables false

end Go.Proofs.YtnbmmhoofilmfaaGreatDoor

/- The contract of quernref09.ReadDesc. -/
namespace Go.Proofs.YtnbmmhoofilmfaaGreatDoor
open Go.RowKit
set_option linter.unusedVariables false

theorem own_only {W W' : World} {base k p : Nat} {v : Value} {e : TypeId} {size : Nat} {xs : List Value} (h : W.ownsRow base e size v k xs) (ho : Only p W W') (hp : v.ownBlock ≠ some p) : W'.ownsRow base e size v k xs := by
  refine ⟨h.1, ?_⟩
  rcases h.2 with h' | ⟨g', cap', cur, hv, hbb, hg, hr⟩
  · exact .inl h'
  · exact .inr ⟨g', cap', cur, hv, hbb, (ho.block g' (fun e => hp (by rw [hv, e]; rfl))).trans hg, hr⟩
end Go.Proofs.YtnbmmhoofilmfaaGreatDoor
