/- slots.read: all slots of a block. -/
import Derived.Test.YtmghpmbjimdegaaS8c
namespace Go.Proofs.Ytmghpmbjimdegaa
open Go.RowKit
set_option linter.unusedVariables false

/-- n slots as cells -/
def Sc (I : Nat → Int) (N : Nat → ByteArray) : Nat → List Value
  | 0 => []
  | k + 1 => Sc I N k ++ [.int .u32 (I k), .string (N k)]
theorem Sc_length (I : Nat → Int) (N : Nat → ByteArray) (k : Nat) : (Sc I N k).length = k * 2 := by
  induction k with
  | zero => rfl
  | succ k ih => simp [Sc, ih]; omega
theorem Sc_get (I : Nat → Int) (N : Nat → ByteArray) (k i : Nat) (hi : i < k) : (Sc I N k)[i * 2]? = some (.int .u32 (I i)) ∧ (Sc I N k)[i * 2 + 1]? = some (.string (N i)) := by
  induction k with
  | zero => omega
  | succ k ih =>
    unfold Sc
    by_cases h : i < k
    · obtain ⟨h1, h2⟩ := ih h
      rw [List.getElem?_append_left (by rw [Sc_length]; omega), List.getElem?_append_left (by rw [Sc_length]; omega)]
      exact ⟨h1, h2⟩
    · obtain rfl : i = k := by omega
      rw [List.getElem?_append_right (by rw [Sc_length]; omega), List.getElem?_append_right (by rw [Sc_length]; omega), Sc_length]
      simp
theorem Sc_congr {I J : Nat → Int} {N M : Nat → ByteArray} {k : Nat} (h : ∀ i, i < k → I i = J i ∧ N i = M i) : Sc I N k = Sc J M k := by
  induction k with
  | zero => rfl
  | succ k ih => unfold Sc; rw [ih fun i hi => h i (by omega), (h k (by omega)).1, (h k (by omega)).2]
theorem Sc_one (I : Nat → Int) (N : Nat → ByteArray) (k : Nat) : ∀ v ∈ Sc I N k, v.oneCell' = true := by
  induction k with
  | zero => intro v hv; cases hv
  | succ k ih =>
    intro v hv
    unfold Sc at hv
    rcases List.mem_append.1 hv with h | h
    · exact ih v h
    · simp only [List.mem_cons, List.not_mem_nil, or_false] at h
      rcases h with rfl | rfl <;> rfl
def noI : Nat → Int := fun _ => 0
def noN : Nat → ByteArray := fun _ => ByteArray.empty
/-- the slots as they are read -/
def dI (z : Nat → Int) : Nat → Int := fun i => slI (sl z i)
def dM (z : Nat → Int) : Nat → ByteArray := fun i => slN (sl z i)
/-- the first k slots are right -/
def rdB (z : Nat → Int) : Nat → Bool
  | 0 => true
  | k + 1 => rdB z k && (sOk (sl z k) && (dI z k == 0 || firstB (hitB (dI z) (dM z) (dM z k)) k == -1))
def dirB (z : Nat → Int) : Bool := rdB z 8
theorem rdB_succ (z : Nat → Int) (k : Nat) : rdB z (k + 1) = (rdB z k && (sOk (sl z k) && (dI z k == 0 || firstB (hitB (dI z) (dM z) (dM z k)) k == -1))) := rfl
theorem rdB_no {z : Nat → Int} {k n : Nat} (hk : k < n) (h : rdB z (k + 1) = false) : rdB z n = false := by
  induction n with
  | zero => omega
  | succ n ih =>
    by_cases e : k = n
    · rw [← e]; exact h
    · rw [rdB_succ, ih (by omega)]; rfl
/-- what is told of them -/
def rI (z : Nat → Int) : Nat → Int := fun i => if dirB z then dI z i else 0
def rN (z : Nat → Int) : Nat → ByteArray := fun i => if dirB z then dM z i else ByteArray.empty
def upI (z : Nat → Int) (k : Nat) : Nat → Int := fun i => if i < k then dI z i else 0
def upN (z : Nat → Int) (k : Nat) : Nat → ByteArray := fun i => if i < k then dM z i else ByteArray.empty
theorem zero_slots (W : World) : (zeroValue 63).run Try.prog W = .ok (.agg (Sc noI noN 8).toArray) W := by kernel_rfl
theorem info_slots (I : Nat → Int) (N : Nat → ByteArray) : (Try.prog.info? 63).map (·.size) = some (Sc I N 8).toArray.size := by
  rw [show (Sc I N 8).toArray.size = 16 by simp [Sc_length]]; kernel_rfl
theorem one_slots (I : Nat → Int) (N : Nat → ByteArray) : (Sc I N 8).toArray.all (·.oneCell') = true := all_oneCell_toArray (Sc_one I N 8)
theorem At.slots {w : World} {g : Nat} {T : TypeId} {I : Nat → Int} {N : Nat → ByteArray} {n : Nat} (h : At w g T (Sc I N n).toArray) : SlSeg w g 0 n I N := fun i hi => by
  obtain ⟨h1, h2⟩ := Sc_get I N n i hi
  rw [Nat.zero_add]
  exact ⟨cell_of_heap h (by simpa using h1), cell_of_heap h (by simpa using h2)⟩

theorem At.of_cells {w : World} {g : Nat} {T : TypeId} {c : Array Value} {l : List Value} (h : w.heap[g]? = some (.cells c T (0, 0))) (hs : c.size = l.length) (hc : ∀ i v, l[i]? = some v → w.cell? ⟨g, i, none⟩ = some v) : At w g T l.toArray := by
  have : c = l.toArray := by
    apply Array.ext_getElem?
    intro i
    by_cases hi : i < c.size
    · have h1 := cell_of_heap h (Array.getElem?_eq_getElem hi)
      have hil : i < l.length := by omega
      have h2 := hc i l[i] (List.getElem?_eq_getElem hil)
      rw [h1] at h2
      rw [Array.getElem?_eq_getElem hi, h2]
      simp [hil]
    · rw [Array.getElem?_eq_none (by omega)]
      symm; simp; omega
  rw [this] at h; exact h
/-- a slot of a row is written -/
theorem At.setSlot {w : World} {g : Nat} {T : TypeId} {I J : Nat → Int} {N M : Nat → ByteArray} {n : Nat} (h : At w g T (Sc I N n).toArray) (i : Nat) (hi : i < n) (hs : ∀ j, j < n → j ≠ i → I j = J j ∧ N j = M j) :
    At (w.setCells g (i * 2) [.int .u32 (J i), .string (M i)]) g T (Sc J M n).toArray ∧ Only g w (w.setCells g (i * 2) [.int .u32 (J i), .string (M i)]) := by
  have ho : Only g w (w.setCells g (i * 2) [.int .u32 (J i), .string (M i)]) := (Only.setCell w ⟨g, i * 2, none⟩ _).trans (Only.setCell _ ⟨g, i * 2 + 1, none⟩ _)
  refine ⟨?_, ho⟩
  obtain ⟨c, hcs, hc⟩ := ho.shape _ _ _ h
  refine At.of_cells hc (by rw [hcs]; simp [Sc_length]) fun j v hj => ?_
  have hjl : j < n * 2 := by have := (List.getElem?_eq_some_iff.1 hj).1; rwa [Sc_length] at this
  have hsl := h.slots
  have hth : ∀ x, x < 2 → (w.cell? ⟨g, i * 2 + x, none⟩).isSome = true := fun x hx => by
    obtain ⟨h1, h2⟩ := hsl i hi
    rw [Nat.zero_add] at h1 h2
    rcases x with _ | _ | x
    · rw [show i * 2 + 0 = i * 2 from rfl, h1]; rfl
    · rw [h2]; rfl
    · omega
  obtain ⟨q, hq⟩ : ∃ q, j = q * 2 ∨ j = q * 2 + 1 := ⟨j / 2, by omega⟩
  have hqn : q < n := by omega
  obtain ⟨s1, s2⟩ := Sc_get J M n q hqn
  obtain ⟨o1, o2⟩ := hsl q hqn
  rw [Nat.zero_add] at o1 o2
  by_cases hqi : q = i
  · subst hqi
    rcases hq with rfl | rfl
    · rw [s1] at hj; cases hj
      have := World.cell?_setCells_in g [.int .u32 (J q), .string (M q)] (q * 2) w hth 0 (by simp)
      exact this
    · rw [s2] at hj; cases hj
      have := World.cell?_setCells_in g [.int .u32 (J q), .string (M q)] (q * 2) w hth 1 (by simp)
      exact this
  · obtain ⟨e1, e2⟩ := hs q hqn hqi
    rw [World.cell?_setCells_out g _ (i * 2) w ⟨g, j, none⟩ (fun _ => by simp; omega)]
    rcases hq with rfl | rfl
    · rw [s1] at hj; cases hj; rw [← e1]; exact o1
    · rw [s2] at hj; cases hj; rw [← e2]; exact o2
structure RdS (w : World) (g : Nat) (T : TypeId) (z : Nat → Int) (k : Nat) (W : World) : Prop where
  b : Blk W g T 256 z
  r : At W w.heap.size 63 (Sc (upI z k) (upN z k) 8).toArray
  bel : Below w.heap.size w W
theorem RdS.below {w : World} {g : Nat} {T : TypeId} {z : Nat → Int} {k : Nat} {W W' : World} (h : RdS w g T z k W) (hb : Below W.heap.size W W') : RdS w g T z k W' := ⟨h.b.below hb h.b.lt, h.r.below hb h.r.lt, h.bel.trans (hb.mono h.bel.size)⟩
theorem Sc_size (I : Nat → Int) (N : Nat → ByteArray) (k : Nat) : (Sc I N k).toArray.size = k * 2 := by simp [Sc_length]
theorem results_slots {fn : Func} {p u : Tmp} (h : fn.results = #[.cell p 63, .tmp u]) (tmps : Array Value) (w : World) (g : Nat) (I : Nat → Int) (N : Nat → ByteArray)
    (hp : tmps.getD p undef = .pointer (some ⟨g, 0, none⟩)) (hg : At w g 63 (Sc I N 8).toArray) : (results fn tmps).run Try.prog w = .ok (.tuple #[.agg (Sc I N 8).toArray, tmps.getD u undef]) w :=
  results_row_tmp h tmps w g 63 _ (0, 0) _ hp hg Try.underlying63 rfl (info_slots _ _)

set_option maxRecDepth 100000 in
set_option maxHeartbeats 1000000 in
theorem read_any (g : Nat) (z : Nat → Int) (hz : Byt z) {T : TypeId} (w : World) (hB : Blk w g T 256 z) :
    Calls Try.prog 27 #[.pointer (some ⟨g, 0, none⟩)] w fun e w' => e = .returned (.tuple #[.agg (Sc (rI z) (rN z) 8).toArray, .bool (dirB z)]) ∧ Below w.heap.size w w' := by
  have hal := zero_slots
  have HB := Lib.hid hB
  clear hB
  go_enter Try.func27, Try.ntmps27
  go_wp2_with fail
  have hglt := HB.out.lt
  have st0 : RdS w g T z 0 (w.alloc (.cells (Sc noI noN 8).toArray 63)) := ⟨HB.out.alloc _, At.new _ _ _, (Below.refl _ _).alloc (Nat.le_refl _) _⟩
  clear hal
  go_loopw [5] (fun u wr => ∃ k : Nat, k ≤ 8 ∧ u = .int .i64 (k : Int) ∧ Hid (rdB z k = true) ∧ RdS w g T z k wr) (fun u _ => 8 - (intOf u).toNat)
  case atStart => exact ⟨0, by omega, rfl, rfl, st0⟩
  case round =>
    clear st0
    obtain ⟨k, hk, rfl, HRD, st⟩ := hrel
    by_cases hlt : k < 8
    · go_wp2_with fail
      refine (cut_any g k hlt _).mono ?_
      rintro e w2 ⟨rfl, rfl⟩
      go_wp2_with fail
      refine (slot_any g k hlt z hz _ st.b).mono ?_
      rintro e w3 ⟨rfl, hb3⟩
      have st3 := st.below hb3
      clear st hb3
      have hth : w3.there w.heap.size (k * 2) 2 := fun j hj => ⟨by
        obtain ⟨h1, h2⟩ := st3.r.slots k hlt
        rw [Nat.zero_add] at h1 h2
        rcases j with _ | _ | j
        · rw [Nat.add_zero, h1]; rfl
        · rw [h2]; rfl
        · omega, soft_of_heap st3.r _⟩
      obtain ⟨hset, hon⟩ := st3.r.setSlot (J := upI z (k + 1)) (M := upN z (k + 1)) k hlt (fun j hj hne => by
        unfold upI upN
        by_cases h : j < k
        · rw [if_pos h, if_pos h, if_pos (by omega), if_pos (by omega)]; exact ⟨rfl, rfl⟩
        · rw [if_neg h, if_neg h, if_neg (by omega), if_neg (by omega)]; exact ⟨rfl, rfl⟩)
      rw [show upI z (k + 1) k = dI z k by unfold upI; rw [if_pos (by omega)], show upN z (k + 1) k = dM z k by unfold upN; rw [if_pos (by omega)]] at hset hon
      have st4 : Hid (RdS w g T z (k + 1) (w3.setCells w.heap.size (k * 2) [.int .u32 (dI z k), .string (dM z k)])) := ⟨st3.b.only hon (by omega), hset, st3.bel.trans (hon.below (Nat.le_refl _))⟩
      clear hset hon
      have hno : Hid (dirB z = false → Sc (rI z) (rN z) 8 = Sc noI noN 8) := fun h => Sc_congr fun i _ => by unfold rI rN; rw [h]; exact ⟨rfl, rfl⟩
      cases hok : sOk (sl z k) with
      | false =>
        have HD : Hid (dirB z = false) := rdB_no hlt (by rw [rdB_succ, hok]; simp)
        have HRI : Hid (Sc (rI z) (rN z) 8 = Sc noI noN 8) := hno.out HD.out
        have hR := st4.out.r
        have hL := st4.out.bel
        clear hno hok
        go_wp2_with (first | (refine wpList_store_mid rfl 33 _ _ rfl _ (k * 2) #[.int .u32 (dI z k), .string (dM z k)] rfl rfl hth (info_slot _ _) (one_slot _ _) ?_) | (refine wp_storeAt rfl 63 _ _ rfl _ (Sc noI noN 8).toArray _ rfl rfl hR (info_slots _ _) (by rw [Sc_size, Sc_size]) (one_slots _ _) ?_))
        intro w9 hR9 ho9
        go_wp2_with fail
        exact bodyPost_ret (results_slots rfl _ _ w.heap.size _ _ rfl hR9) rfl ⟨by rw [HD.out, HRI.out]; rfl, hL.trans (ho9.below (Nat.le_refl _))⟩
      | true =>
      have HOK := Lib.hid hok
      clear hok
      go_wp2_with (first | (refine wpList_store_mid rfl 33 _ _ rfl _ (k * 2) #[.int .u32 (dI z k), .string (dM z k)] rfl rfl hth (info_slot _ _) (one_slot _ _) ?_))
      have st5 := st4.out
      clear st4 hth st3
      generalize w3.setCells w.heap.size (k * 2) [.int .u32 (dI z k), .string (dM z k)] = w5 at st5 ⊢
      have hc0 : ∀ x : InW (RdS w g T z (k + 1)), x.W.cell? ⟨w.heap.size, k * 2, none⟩ = some (.int .u32 (dI z k)) := fun x => by
        have := (x.h.r.slots k hlt).1
        rw [Nat.zero_add] at this
        rw [this]; unfold upI; rw [if_pos (by omega)]
      have hc1 : ∀ x : InW (RdS w g T z (k + 1)), x.W.cell? ⟨w.heap.size, k * 2 + 1, none⟩ = some (.string (dM z k)) := fun x => by
        have := (x.h.r.slots k hlt).2
        rw [Nat.zero_add] at this
        rw [this]; unfold upN; rw [if_pos (by omega)]
      have l0 : (0 : Int) ≤ (k : Int) := by omega
      have l1 : (k : Int) < 8 := by omega
      have hsl : ∀ W, (Instr.sliceAt 63 (.pointer (some ⟨w.heap.size, 0, none⟩)) none (some (.int .i64 (k : Int))) none).run Try.prog W = .ok (.slice (some ⟨w.heap.size, 0, none⟩) k 8) W := fun W => by
        have hal : Try.prog.arrayLen 63 = 8 := by kernel_rfl
        have hsz : ∀ W, (sizeOf (Try.prog.elem 63)).run Try.prog W = .ok 2 W := fun W => by kernel_rfl
        rw [run_sliceAt_array_h W 63 _ (by kernel_rfl) .i64 (k : Int) (by omega) (by rw [hal]; omega), hsz, hal]
        simp only [Result.andThen, slicedAt, Int.toNat_natCast]
        simp [addr_add]
      have hrow : Hid (∀ W, RdS w g T z (k + 1) W → SlRow W (some ⟨w.heap.size, 0, none⟩) k (dI z) (dM z)) := fun W h => .inr ⟨_, _, rfl, fun i hi => by
        have := h.r.slots i (by omega)
        unfold upI upN at this
        rw [if_pos (by omega), if_pos (by omega)] at this
        exact this⟩
      cases hi0 : (dI z k != 0) with
      | false =>
        have HRD1 : Hid (rdB z (k + 1) = true) := by
          show _ = _
          have e : (dI z k == 0) = true := by rw [bne] at hi0; simpa using hi0
          rw [rdB_succ, HRD.out, HOK.out, e]; rfl
        refine wp_region_S (RdS w g T z (k + 1)) (by kernel_rfl) (by kernel_rfl) ⟨st5.b, st5.r, st5.bel.drew⟩ ?_
        clear st5
        intro hne
        repeat (first | go_big_quiet_skip | (go_big_quiet_want; go_big_quiet_op; go_big_quiet_on))
        refine wpQuiet_nil ?_
        intro w6 h6
        have st6 := h6.out
        clear h6 hne hc0 hc1 hsl
        go_wp2_with fail
        go_roundw
        case rel => first | exact ⟨k + 1, by omega, by go_num, HRD1, st6⟩ | ((repeat apply Exists.intro); exact ⟨⟨k + 1, by omega, by go_num, HRD1, st6⟩, rfl⟩)
        case measure => simp [intOf]; omega
      | true =>
        have e0 : Hid ((dI z k == 0) = false) := by show _ = _; rw [bne] at hi0; simpa using hi0
        have hfc : Hid (firstB (hitB (dI z) (dM z) (dM z k)) k = -1 ∨ 0 ≤ firstB (hitB (dI z) (dM z) (dM z k)) k) := by
          rcases firstB_cases (hitB (dI z) (dM z) (dM z k)) k with h | ⟨j, _, h, _⟩
          · exact .inl h.1
          · exact .inr (by omega)
        have HF : Hid (rdB z (k + 1) = (firstB (hitB (dI z) (dM z) (dM z k)) k == -1)) := by show _ = _; rw [rdB_succ, HRD.out, HOK.out, e0.out]; rfl
        have hcall : Hid (∀ W, RdS w g T z (k + 1) W → Calls Try.prog 28 #[.slice (some ⟨w.heap.size, 0, none⟩) k 8, .string (dM z k)] W fun e w' => e = .returned (.int .i64 (firstB (hitB (dI z) (dM z) (dM z k)) k)) ∧ RdS w g T z (k + 1) w') := fun W hW => (named_any _ k 8 (dI z) (dM z) (dM z k) (by omega) W (hrow.out W hW)).mono fun e w' h => ⟨h.1, hW.below h.2⟩
        generalize firstB (hitB (dI z) (dM z) (dM z k)) k = f at *
        refine wp_region_S (RdS w g T z (k + 1)) (by kernel_rfl) (by kernel_rfl) ⟨st5.b, st5.r, st5.bel.drew⟩ ?_
        clear st5
        intro hne
        repeat (first | go_big_quiet_skip | (go_big_quiet_want; go_big_quiet_op; go_big_quiet_on))
        go_big_quiet_want
        go_big_quiet_op
        refine ⟨_, fun s => q_call s (fun W hW => hcall.out W hW), ?_⟩
        go_big_quiet_on
        repeat (first | go_big_quiet_skip | (go_big_quiet_want; go_big_quiet_op; go_big_quiet_on))
        refine wpQuiet_nil ?_
        intro w6 h6
        have st6 := h6.out
        clear h6 hne hc0 hc1 hsl
        rcases hfc.out with hf | hf
        · have HRD1 : Hid (rdB z (k + 1) = true) := by show _ = _; rw [HF.out, hf]; rfl
          have q : ¬ (0 : Int) ≤ f := by omega
          subst hf
          go_wp2_with fail
          go_roundw
          case rel => first | exact ⟨k + 1, by omega, by go_num, HRD1, st6⟩ | ((repeat apply Exists.intro); exact ⟨⟨k + 1, by omega, by go_num, HRD1, st6⟩, rfl⟩)
          case measure => simp [intOf]; omega
        · have HD : Hid (dirB z = false) := rdB_no hlt (by rw [HF.out]; simp; omega)
          have HRI : Hid (Sc (rI z) (rN z) 8 = Sc noI noN 8) := hno.out HD.out
          have hR := st6.r
          have hL := st6.bel
          go_wp2_with (first | (refine wp_storeAt rfl 63 _ _ rfl _ (Sc noI noN 8).toArray _ rfl rfl hR (info_slots _ _) (by rw [Sc_size, Sc_size]) (one_slots _ _) ?_))
          intro w9 hR9 ho9
          go_wp2_with fail
          exact bodyPost_ret (results_slots rfl _ _ w.heap.size _ _ rfl hR9) rfl ⟨by rw [HD.out, HRI.out]; rfl, hL.trans (ho9.below (Nat.le_refl _))⟩
    · obtain rfl : k = 8 := by omega
      have HD : Hid (dirB z = true) := HRD.out
      have HRI : Hid (Sc (rI z) (rN z) 8 = Sc (upI z 8) (upN z 8) 8) := Sc_congr fun i hi => by unfold rI rN upI upN; rw [HD.out, if_pos hi, if_pos hi]; exact ⟨rfl, rfl⟩
      have hR := st.r
      go_wp2_with (first | (refine wp_loadAtG rfl 63 _ rfl _ _ _ rfl hR Try.underlying63 rfl (info_slots _ _) ?_) | (refine wp_storeAt rfl 63 _ _ rfl _ (Sc (upI z 8) (upN z 8) 8).toArray _ rfl rfl hR (info_slots _ _) rfl (one_slots _ _) ?_))
      intro w9 hR9 ho9
      go_wp2_with fail
      exact bodyPost_ret (results_slots rfl _ _ w.heap.size _ _ rfl hR9) rfl ⟨by rw [HD.out, HRI.out]; rfl, st.bel.trans (ho9.below (Nat.le_refl _))⟩
end Go.Proofs.Ytmghpmbjimdegaa
