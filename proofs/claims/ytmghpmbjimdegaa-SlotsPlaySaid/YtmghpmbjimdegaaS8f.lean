/- slots.Add, slots.Remove. -/
import Derived.Test.YtmghpmbjimdegaaS8e
import Derived.Lib.LazyBuf
namespace Go.Proofs.Ytmghpmbjimdegaa
open Go.RowKit
set_option linter.unusedVariables false

/-- the bytes of a name as numbers -/
def bz (s : ByteArray) : Nat → Int := fun j => ((s.data.toList.getD j 0).toNat : Int)
theorem byt_bz (s : ByteArray) : Byt (bz s) := fun j => by unfold bz; have := (s.data.toList.getD j 0).toNat_lt; omega
/-- the bytes of a slot with a name and an inode -/
def mkS (s : ByteArray) (ino : Int) : Nat → Int := fun j => if j < 4 then byteOf ino j else if j = 4 then (s.size : Int) else if j - 5 < s.size then bz s (j - 5) else 0
/-- the block with slot i otherwise -/
def putS (z : Nat → Int) (i : Nat) (y : Nat → Int) : Nat → Int := over z (32 * i) 32 y
def freeS (z : Nat → Int) : Int := firstB (fun i => rI z i == 0) 8
def addE (z : Nat → Int) (s : ByteArray) (ino : Int) : Int :=
  if dirB z = false then 80 else if mayB s = false ∨ ino = 0 ∨ fS z s ≠ -1 then 2 else if freeS z = -1 then 4 else 0
def addZ (z : Nat → Int) (s : ByteArray) (ino : Int) : Nat → Int := if addE z s ino = 0 then putS z (freeS z).toNat (mkS s ino) else z
def remB (z : Nat → Int) (s : ByteArray) : Bool := fS z s != -1
def remZ (z : Nat → Int) (s : ByteArray) : Nat → Int := if remB z s then putS z (fS z s).toNat (fun _ => 0) else z

theorem wpList_copyS {P : Program} {w : World} {ops : Array Oper} {rest : List Oper} {o : Oper} {a : Act} {Q : Exit → Act → World → Prop} (hgd : o.guard = none) (d x : Operand) (dT sT : TypeId)
    (ho : o.op = .call { callee := .builtin .copy, args := #[d, x], argTypes := #[dT, sT] }) (elem : TypeId) (hu : P.underlying dT = some (.slice elem)) (hz : ∀ w, (Go.sizeOf elem).run P w = .ok 1 w)
    (b off dLen dCap : Nat) (z : Nat → Int) (t : ByteArray) (hd : a.eval d = .slice (some ⟨b, off, none⟩) dLen dCap) (hx : a.eval x = .string t) (hle : t.size ≤ dLen) (hseg : Seg w b off dLen z) (hf : Soft w b off dLen)
    (h : ∀ w', Puts b off t.size (bz t) w w' → wpList P ops Q rest (a.put o.dst (goInt t.size)) w') : wpList P ops Q (o :: rest) a w := by
  refine wpList_plain hgd fun K hK => ?_
  have hc : ∀ j, j < t.size → (w.cell? ⟨b, off + j, none⟩).isSome = true := fun j hj => by rw [hseg j (by omega)]; rfl
  have hrun := run_copy_string (P := P) w dT sT o.type elem b off dLen dCap t hu hz hle hc (fun j hj => hf j (by omega))
  unfold Oper.wp
  simp [execOp, ho, resolve, invoke, builtin, hd, hx, hrun, Result.andThen]
  refine hK _ _ (h _ (puts_setCells b off t.size (bz t) _ w (by rw [List.length_map, Array.length_toList]; rfl) (fun i hi => ?_) hc))
  have hi' : i < t.data.toList.length := by simpa using hi
  simp only [List.getElem_map]
  unfold bz
  rw [List.getD, List.getElem?_eq_getElem hi']; rfl
theorem over_over (z : Nat → Int) (i : Nat) (s : ByteArray) (ino : Int) (hs : s.size ≤ 27) (h0 : ∀ j, j < 32 → z (32 * i + j) = 0) (j : Nat) :
    over (over (over z (32 * i) 4 (byteOf ino)) (32 * i + 4) 1 (fun _ => (s.size : Int))) (32 * i + 5) s.size (bz s) j = putS z i (mkS s ino) j := by
  unfold putS over mkS
  by_cases h : 32 * i ≤ j ∧ j < 32 * i + 32
  · rw [if_pos h]
    obtain ⟨x, rfl⟩ : ∃ x, j = 32 * i + x := ⟨j - 32 * i, by omega⟩
    rw [show 32 * i + x - 32 * i = x by omega]
    by_cases h4 : x < 4
    · rw [if_neg (by omega), if_neg (by omega), if_pos (by omega), if_pos h4]
    · rw [if_neg h4]
      by_cases h5 : x = 4
      · rw [if_neg (by omega), if_pos (by omega), if_pos h5]
      · rw [if_neg h5]
        by_cases h6 : x - 5 < s.size
        · rw [if_pos (by omega), if_pos h6]; congr 1; omega
        · rw [if_neg (by omega), if_neg (by omega), if_neg (by omega), if_neg h6, h0 x (by omega)]
  · rw [if_neg h, if_neg (by omega), if_neg (by omega), if_neg (by omega)]
/-- a free slot's bytes are noughts -/
theorem free_zero {z : Nat → Int} {k : Nat} (hd : dirB z = true) (hk : k < 8) (h : rI z k = 0) : ∀ j, j < 32 → z (32 * k + j) = 0 := by
  have hok : sOk (sl z k) = true := by
    cases e : sOk (sl z k) with
    | true => rfl
    | false =>
      have : dirB z = false := rdB_no hk (by rw [rdB_succ, e]; simp)
      rw [hd] at this; cases this
  have h0 : sIno (sl z k) = 0 := by
    unfold rI dI slI at h
    rw [hd, hok] at h
    exact h
  unfold sOk at hok
  rw [if_pos h0] at hok
  intro j hj
  exact (allZ_iff _ _).1 hok j hj

set_option maxRecDepth 100000 in
set_option maxHeartbeats 1000000 in
theorem add_any (g : Nat) {T : TypeId} (z : Nat → Int) (hz : Byt z) (s : ByteArray) (hs : s.size ≤ 9223372036854775807) (ino : Int) (hi : 0 ≤ ino ∧ ino < 4294967296) (w : World) (hB : Blk w g T 256 z) :
    Calls Try.prog 17 #[.pointer (some ⟨g, 0, none⟩), .string s, .int .u32 ino] w fun e w' => e = .returned (.int .i64 (addE z s ino)) ∧ Blk w' g T 256 (addZ z s ino) ∧ w.grownBy w' (some g) := by
  have hal := zero_slots
  have HB := Lib.hid hB
  have hglt := hB.lt
  clear hB
  obtain ⟨hi0, hi1⟩ := hi
  go_enter Try.func17, Try.ntmps17
  go_wp2_with fail
  refine (read_any g z hz _ HB.out).mono ?_
  rintro e w1 ⟨rfl, hb1⟩
  have hB1 := HB.out.below hb1 hglt
  have hA1 := At.new w1 63 (Sc noI noN 8).toArray
  have hsz1 := hb1.size
  clear HB
  have HZ0 : Hid (addE z s ino ≠ 0 → addZ z s ino = z) := fun h => by unfold addZ; rw [if_neg h]
  cases hd : dirB z with
  | false =>
    have HE : Hid (addE z s ino = 80) := by show _ = _; unfold addE; rw [hd]; rfl
    clear hd
    go_wp2_with (first | (refine wp_storeAt rfl 63 _ _ rfl _ (Sc (rI z) (rN z) 8).toArray _ rfl rfl hA1 (info_slots _ _) (by rw [Sc_size, Sc_size]) (one_slots _ _) ?_))
    intro w2 hA2 ho2
    have hb2 : Below w.heap.size w w2 := (hb1.alloc hb1.size _).trans (ho2.below hb1.size)
    have hB2 := (hB1.alloc _).only ho2 (by omega)
    clear hA1 hb1 ho2 hal hB1
    go_wp2_with fail
    go_ret
    exact ⟨by rw [HE.out]; rfl, by rw [HZ0.out (by rw [HE.out]; decide)]; exact hB2, grown_below hb2⟩
  | true =>
    have HD := Lib.hid hd
    clear hd
    go_wp2_with (first | (refine wp_storeAt rfl 63 _ _ rfl _ (Sc (rI z) (rN z) 8).toArray _ rfl rfl hA1 (info_slots _ _) (by rw [Sc_size, Sc_size]) (one_slots _ _) ?_))
    intro w2 hA2 ho2
    have hb2 : Below w.heap.size w w2 := (hb1.alloc hb1.size _).trans (ho2.below hb1.size)
    have hB2 := (hB1.alloc _).only ho2 (by omega)
    clear hA1 hb1 ho2 hal hB1
    have hsl := fun W => run_slotsAll w1.heap.size W
    generalize w1.heap.size = G at *
    go_wp2_with fail
    refine (mayName_any s hs _).mono ?_
    rintro e w3 ⟨rfl, rfl⟩
    cases hm : mayB s with
    | false =>
      have HE : Hid (addE z s ino = 2) := by show _ = _; unfold addE; rw [HD.out, hm]; simp
      clear hm
      go_wp2_with fail
      go_ret
      exact ⟨by rw [HE.out]; rfl, by rw [HZ0.out (by rw [HE.out]; decide)]; exact hB2, grown_below hb2⟩
    | true =>
    have HM := Lib.hid hm
    have hs27 : s.size ≤ 27 := by
      unfold mayB mayL at hm
      simp only [Bool.and_eq_true, decide_eq_true_eq] at hm
      exact hm.2.1
    clear hm
    cases hi : (ino == 0) with
    | true =>
      have HE : Hid (addE z s ino = 2) := by show _ = _; unfold addE; rw [HD.out, if_neg (by decide), if_pos (.inr (.inl (by simpa using hi)))]
      go_wp2_with fail
      go_ret
      exact ⟨by rw [HE.out]; rfl, by rw [HZ0.out (by rw [HE.out]; decide)]; exact hB2, grown_below hb2⟩
    | false =>
    have hin0 : Hid (ino ≠ 0) := by show _ ≠ _; simpa using hi
    go_wp2_with fail
    refine (named_any _ 8 8 (rI z) (rN z) s (by decide) _ (.inr ⟨_, _, rfl, hA2.slots⟩)).mono ?_
    rintro e w3 ⟨rfl, hb3⟩
    have hA3 := hA2.below hb3 hA2.lt
    have hB3 := hB2.below hb3 hB2.lt
    have hb3' : Below w.heap.size w w3 := hb2.trans (hb3.mono hb2.size)
    clear hA2 hB2 hb2 hb3
    rcases firstB_cases (hitB (rI z) (rN z) s) 8 with ⟨h1, _⟩ | ⟨k, hk, h1, _⟩
    rotate_left
    · have HE : Hid (addE z s ino = 2) := by
        show _ = _
        have : fS z s ≠ -1 := by unfold fS; rw [h1]; omega
        unfold addE; rw [HD.out, if_neg (by decide), if_pos (.inr (.inr this))]
      rw [h1]
      clear h1
      go_wp2_with fail
      go_ret
      exact ⟨by rw [HE.out]; rfl, by rw [HZ0.out (by rw [HE.out]; decide)]; exact hB3, grown_below hb3'⟩
    have HFS : Hid (fS z s = -1) := h1
    rw [h1]
    clear h1
    go_wp2_with fail
    refine (free_any _ 8 8 (rI z) (rN z) (by decide) _ (.inr ⟨_, _, rfl, hA3.slots⟩)).mono ?_
    rintro e w4 ⟨rfl, hb4⟩
    have hB4 := hB3.below hb4 hB3.lt
    have hb4' : Below w.heap.size w w4 := hb3'.trans (hb4.mono hb3'.size)
    clear hA3 hB3 hb3' hb4 hsl
    have HAE : Hid (addE z s ino = if freeS z = -1 then 4 else 0) := by
      show _ = _
      unfold addE
      rw [HD.out, if_neg (by decide), if_neg (by rw [HM.out]; rintro (h | h | h); cases h; exact hin0.out h; exact h HFS.out)]
    rcases firstB_cases (fun i => rI z i == 0) 8 with ⟨h1, _⟩ | ⟨k, hk, h1, hk0, _⟩
    · have HE : Hid (addE z s ino = 4) := by show _ = _; rw [HAE.out, if_pos (show freeS z = -1 from h1)]
      rw [h1]
      clear h1
      go_wp2_with fail
      go_ret
      exact ⟨by rw [HE.out]; rfl, by rw [HZ0.out (by rw [HE.out]; decide)]; exact hB4, grown_below hb4'⟩
    have HFR : Hid (freeS z = (k : Int)) := h1
    have HE : Hid (addE z s ino = 0) := by show _ = _; rw [HAE.out, if_neg (by rw [HFR.out]; omega)]
    have HFIN : Hid (∀ j, over (over (over z (32 * k) 4 (byteOf ino)) (32 * k + 4) 1 (fun _ => (s.size : Int))) (32 * k + 5) s.size (bz s) j = addZ z s ino j) := fun j => by
      rw [over_over z k s ino hs27 (free_zero HD.out hk (by simpa using hk0))]
      unfold addZ; rw [if_pos HE.out, HFR.out]; rfl
    rw [h1]
    clear h1 hk0
    go_wp2_with fail
    refine (cut_any g k hk _).mono ?_
    rintro e w5 ⟨rfl, rfl⟩
    go_wp2_with fail
    have hseg : Seg w4 g (32 * k) 32 (fun j => z (32 * k + j)) := by have := hB4.seg.sub (32 * k) 32 (by omega); rwa [Nat.zero_add] at this
    refine (put32_yes g (32 * k) 32 32 0 ino _ _ (by decide) (by decide) (by decide) hi0 hseg (hB4.soft (32 * k) 32)).mono ?_
    rintro e w5 ⟨rfl, hp5⟩
    have hB5 := hB4.puts hp5
    have hg5 : w.grownBy w5 (some g) := grown_trans (grown_below hb4') (grown_only hp5.only)
    rw [show 32 * k + (0 : Int).toNat = 32 * k by simp] at hB5
    clear hseg hp5 hB4 hb4'
    have l5 : (s.size : Int) < 256 := by omega
    have l6 : IntKind.u8.wrap (s.size : Int) = (s.size : Int) := IntWalk.u8_in _ (by omega)
    go_wp2_with (first | (refine wp_storeByte rfl _ _ rfl _ (32 * k + 4) (s.size : Int) rfl rfl hB5 (by omega) ?_))
    intro w6 hB6 ho6
    have hg6 := grown_trans hg5 (grown_only ho6)
    clear hB5 hg5 ho6
    have hsl := fun W => run_sl_low (some ⟨g, 32 * k, none⟩) 32 32 5 5 (by omega) (by omega) W
    rw [show slAt (some ⟨g, 32 * k, none⟩) 5 32 = some ⟨g, 32 * k + 5, none⟩ by unfold slAt; rw [if_neg (by decide)]; simp [addr_add]] at hsl
    have hseg := hB6.seg.sub (32 * k + 5) 27 (by omega)
    rw [Nat.zero_add] at hseg
    have hsz1 : ∀ w, (Go.sizeOf 5).run Try.prog w = .ok 1 w := fun w => by kernel_rfl
    go_wp2_with (first | (refine wpList_copyS rfl _ _ _ _ rfl 5 Try.underlying58 hsz1 g (32 * k + 5) 27 27 _ s rfl rfl hs27 hseg (hB6.soft _ _) ?_))
    intro w7 hp7
    have hB7 := hB6.puts hp7
    have hg7 := grown_trans hg6 (grown_only hp7.only)
    go_wp2_with fail
    go_ret
    exact ⟨by rw [HE.out]; rfl, hB7.congr fun i _ => HFIN.out i, hg7⟩

theorem add_nil (s : ByteArray) (ino : Int) (w : World) : Calls Try.prog 17 #[.pointer none, .string s, .int .u32 ino] w fun e w' => e = .returned (.int .i64 1) ∧ w = w' := by
  go_enter Try.func17, Try.ntmps17
  go_wp2_with fail
  go_ret
  exact ⟨rfl, rfl⟩
theorem rem_nil (s : ByteArray) (w : World) : Calls Try.prog 19 #[.pointer none, .string s] w fun e w' => e = .returned (.bool false) ∧ w = w' := by
  go_enter Try.func19, Try.ntmps19
  go_wp2_with fail
  go_ret
  exact ⟨rfl, rfl⟩

set_option maxRecDepth 100000 in
set_option maxHeartbeats 1000000 in
theorem rem_any (g : Nat) {T : TypeId} (z : Nat → Int) (hz : Byt z) (s : ByteArray) (w : World) (hB : Blk w g T 256 z) :
    Calls Try.prog 19 #[.pointer (some ⟨g, 0, none⟩), .string s] w fun e w' => e = .returned (.bool (remB z s)) ∧ Blk w' g T 256 (remZ z s) ∧ w.grownBy w' (some g) := by
  have hal := zero_slots
  have HB := Lib.hid hB
  have hglt := hB.lt
  clear hB
  go_enter Try.func19, Try.ntmps19
  go_wp2_with fail
  refine (read_any g z hz _ HB.out).mono ?_
  rintro e w1 ⟨rfl, hb1⟩
  have hB1 := HB.out.below hb1 hglt
  have hA1 := At.new w1 63 (Sc noI noN 8).toArray
  have hsz1 := hb1.size
  clear HB
  have HZ0 : Hid (remB z s = false → remZ z s = z) := fun h => by unfold remZ; rw [h]; rfl
  cases hd : dirB z with
  | false =>
    have HE : Hid (remB z s = false) := by
      show _ = _
      have : fS z s = -1 := firstB_none fun i _ => by unfold hitB rI; rw [hd]; rfl
      unfold remB; rw [this]; rfl
    clear hd
    go_wp2_with (first | (refine wp_storeAt rfl 63 _ _ rfl _ (Sc (rI z) (rN z) 8).toArray _ rfl rfl hA1 (info_slots _ _) (by rw [Sc_size, Sc_size]) (one_slots _ _) ?_))
    intro w2 hA2 ho2
    have hb2 : Below w.heap.size w w2 := (hb1.alloc hb1.size _).trans (ho2.below hb1.size)
    have hB2 := (hB1.alloc _).only ho2 (by omega)
    clear hA1 hb1 ho2 hal hB1
    go_wp2_with fail
    go_ret
    exact ⟨by rw [HE.out]; rfl, by rw [HZ0.out HE.out]; exact hB2, grown_below hb2⟩
  | true =>
    clear hd
    go_wp2_with (first | (refine wp_storeAt rfl 63 _ _ rfl _ (Sc (rI z) (rN z) 8).toArray _ rfl rfl hA1 (info_slots _ _) (by rw [Sc_size, Sc_size]) (one_slots _ _) ?_))
    intro w2 hA2 ho2
    have hb2 : Below w.heap.size w w2 := (hb1.alloc hb1.size _).trans (ho2.below hb1.size)
    have hB2 := (hB1.alloc _).only ho2 (by omega)
    clear hA1 hb1 ho2 hal hB1
    have hsl := fun W => run_slotsAll w1.heap.size W
    generalize w1.heap.size = G at *
    go_wp2_with fail
    refine (named_any _ 8 8 (rI z) (rN z) s (by decide) _ (.inr ⟨_, _, rfl, hA2.slots⟩)).mono ?_
    rintro e w3 ⟨rfl, hb3⟩
    have hB3 := hB2.below hb3 hB2.lt
    have hb3' : Below w.heap.size w w3 := hb2.trans (hb3.mono hb2.size)
    clear hA2 hB2 hb2 hb3 hsl
    rcases firstB_cases (hitB (rI z) (rN z) s) 8 with ⟨h1, _⟩ | ⟨k, hk, h1, _⟩
    · have HE : Hid (remB z s = false) := by
        show _ = _
        have : fS z s = -1 := h1
        unfold remB; rw [this]; rfl
      rw [h1]
      clear h1
      go_wp2_with fail
      go_ret
      exact ⟨by rw [HE.out]; rfl, by rw [HZ0.out HE.out]; exact hB3, grown_below hb3'⟩
    · have HF : Hid (fS z s = (k : Int)) := h1
      have HE : Hid (remB z s = true) := by show _ = _; unfold remB; rw [HF.out]; simp
      rw [h1]
      clear h1
      go_wp2_with fail
      refine (cut_any g k hk _).mono ?_
      rintro e w5 ⟨rfl, rfl⟩
      have hseg := hB3.seg.sub (32 * k) 32 (by omega)
      rw [Nat.zero_add] at hseg
      have hz8 : ∀ w, (zeroValue 5).run Try.prog w = .ok (.int .u8 0) w := fun w => by kernel_rfl
      go_wp2_with (first | (refine wpList_clearB rfl _ _ rfl 5 Try.underlying58 hz8 g (32 * k) 32 32 _ rfl (by decide) hseg (hB3.soft _ _) ?_))
      intro w7 hp7
      have hB7 := hB3.puts hp7
      have hg7 := grown_trans (grown_below (row := some g) hb3') (grown_only hp7.only)
      go_wp2_with fail
      go_ret
      exact ⟨by rw [HE.out]; rfl, hB7.congr fun i _ => by unfold remZ putS; rw [HE.out, HF.out]; rfl, hg7⟩
end Go.Proofs.Ytmghpmbjimdegaa
