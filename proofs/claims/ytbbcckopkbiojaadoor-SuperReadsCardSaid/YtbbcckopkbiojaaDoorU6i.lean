/- '==' of superblocks and descriptors; quernref06.Same. -/
import Derived.Test.YtbbcckopkbiojaaDoorU6e
import Derived.Test.YtbbcckopkbiojaaDoorRegion
namespace Go.Proofs.YtbbcckopkbiojaaDoor
open Go.RowKit
set_option linter.unusedVariables false

theorem neq_of_eql {P : Program} {t : TypeId} {x y : Array Value} {B : Bool} {w : World} (h : (binOp .eql t (.agg x) (.agg y)).run P w = .ok (.bool B) w) : (binOp .neq t (.agg x) (.agg y)).run P w = .ok (.bool (!B)) w := by
  rw [run_eql_struct] at h
  rw [run_neq_struct]
  generalize (Op.equalIn 10000 t (.agg x) (.agg y)).run P w = r at *
  cases r with
  | ok b w' => simp at h ⊢; exact ⟨by rw [h.1], h.2⟩
  | halt e w' => simp at h
def eqD (a b c a' b' c' : Int) : Bool := a == a' && (b == b' && c == c')
theorem run_eql_desc (a b c a' b' c' : Int) (w : World) : (binOp .eql 48 (dval a b c) (dval a' b' c')).run Tryd.prog w = .ok (.bool (eqD a b c a' b' c')) w := by
  have hS : Tryd.prog.underlying 48 = some (.struct (Tryd.prog.fieldsOf 48)) := by kernel_rfl
  have hp : Tryd.prog.stoodInHeld 48 = false := by kernel_rfl
  rw [run_eql_struct, show (10000 : Nat) = 9999 + 1 from rfl, run_equalIn_agg w 9999 _ _ _ hS hp]
  simp only [Program.fieldsOf, Tryd.underlying48]
  clear hS hp
  go_simp
  unfold eqD
  by_cases h1 : a = a' <;> by_cases h2 : b = b' <;> by_cases h3 : c = c' <;> simp [h1, h2, h3]
theorem run_neq_desc (a b c a' b' c' : Int) (w : World) : (binOp .neq 48 (dval a b c) (dval a' b' c')).run Tryd.prog w = .ok (.bool (!eqD a b c a' b' c')) w := neq_of_eql (run_eql_desc a b c a' b' c' w)
def eqG (G S I J G' S' I' J' : Int) : Bool := G == G' && (S == S' && (I == I' && J == J'))
def eqS (G S I J O G' S' I' J' O' : Int) : Bool := eqG G S I J G' S' I' J' && O == O'
theorem run_eql_super (G S I J O G' S' I' J' O' : Int) (w : World) : (binOp .eql 26 (sval G S I J O) (sval G' S' I' J' O')).run Tryd.prog w = .ok (.bool (eqS G S I J O G' S' I' J' O')) w := by
  have hS : Tryd.prog.underlying 26 = some (.struct (Tryd.prog.fieldsOf 26)) := by kernel_rfl
  have hp : Tryd.prog.stoodInHeld 26 = false := by kernel_rfl
  have hS2 : Tryd.prog.underlying 23 = some (.struct (Tryd.prog.fieldsOf 23)) := by kernel_rfl
  have hp2 : Tryd.prog.stoodInHeld 23 = false := by kernel_rfl
  have hG : ∀ w, (Op.equalIn 9999 23 (gval G S I J) (gval G' S' I' J')).run Tryd.prog w = .ok (eqG G S I J G' S' I' J') w := fun w => by
    rw [show (9999 : Nat) = 9998 + 1 from rfl, run_equalIn_agg w 9998 _ _ _ hS2 hp2]
    simp only [Program.fieldsOf, Tryd.underlying23]
    go_simp
    unfold eqG
    by_cases h1 : G = G' <;> by_cases h2 : S = S' <;> by_cases h3 : I = I' <;> by_cases h4 : J = J' <;> simp [h1, h2, h3, h4]
  rw [run_eql_struct, show (10000 : Nat) = 9999 + 1 from rfl, run_equalIn_agg w 9999 _ _ _ hS hp]
  simp only [Program.fieldsOf, Tryd.underlying26]
  clear hS hp hS2 hp2
  go_simp
  unfold eqS
  cases eqG G S I J G' S' I' J' <;> by_cases h : O = O' <;> simp [h]
theorem run_neq_super (G S I J O G' S' I' J' O' : Int) (w : World) : (binOp .neq 26 (sval G S I J O) (sval G' S' I' J' O')).run Tryd.prog w = .ok (.bool (!eqS G S I J O G' S' I' J' O')) w := neq_of_eql (run_eql_super G S I J O G' S' I' J' O' w)
theorem eqD_iff {a b c a' b' c' : Int} : eqD a b c a' b' c' = true ↔ a = a' ∧ b = b' ∧ c = c' := by unfold eqD; simp
theorem eqS_iff {G S I J O G' S' I' J' O' : Int} : eqS G S I J O G' S' I' J' O' = true ↔ G = G' ∧ S = S' ∧ I = I' ∧ J = J' ∧ O = O' := by unfold eqS eqG; simp [and_assoc]

/-- are descriptors the same? -/
def sameD (n n' : Nat) (b i d b' i' d' : Nat → Int) : Bool := decide (n = n') && allB (fun k => eqD (b k) (i k) (d k) (b' k) (i' k) (d' k)) n
theorem sameD_iff {n n' : Nat} {b i d b' i' d' : Nat → Int} : sameD n n' b i d b' i' d' = true ↔ n = n' ∧ ∀ k, k < n → b k = b' k ∧ i k = i' k ∧ d k = d' k := by
  unfold sameD
  rw [Bool.and_eq_true, decide_eq_true_eq, allB_iff]
  constructor
  · rintro ⟨h1, h2⟩; exact ⟨h1, fun k hk => eqD_iff.1 (h2 k hk)⟩
  · rintro ⟨h1, h2⟩; exact ⟨h1, fun k hk => eqD_iff.2 (h2 k hk)⟩
structure TwoD (w : World) (x y : Addr) (cs cs' : List Value) (W : World) : Prop where
  s : W.rangeAt x.block x.off cs
  s' : W.rangeAt y.block y.off cs'
  d : ∃ m, W = w.drewN m
set_option maxRecDepth 100000 in
set_option maxHeartbeats 1000000 in
theorem sameD_any (a c : Option Addr) (n n' cap cap' : Nat) (b i d b' i' d' : Nat → Int) (w : World) (hl : (n : Int) ≤ 9223372036854775807) (hl' : (n' : Int) ≤ 9223372036854775807) (hs : RRow w a 3 n (df b i d)) (hs' : RRow w c 3 n' (df b' i' d')) :
    Calls Tryd.prog 15 #[.slice a n cap, .slice c n' cap'] w fun e w' => e = .returned (.bool (sameD n n' b i d b' i' d')) ∧ ∃ m, w' = w.drewN m := by
  have HS := Lib.hid hs
  have HS' := Lib.hid hs'
  clear hs hs'
  go_enter Tryd.func15, Tryd.ntmps15
  by_cases hne : n = n'
  rotate_left
  · have HN : Hid (sameD n n' b i d b' i' d' = false) := by show _ = _; unfold sameD; simp [hne]
    have hq : ((n : Int) != (n' : Int)) = true := by simp; omega
    clear hne
    go_wp2_with fail
    go_ret
    exact ⟨by rw [HN.out]; rfl, 0, rfl⟩
  subst hne
  have HD : Hid (sameD n n b i d b' i' d' = allB (fun k => eqD (b k) (i k) (d k) (b' k) (i' k) (d' k)) n) := by show _ = _; unfold sameD; simp
  go_wp2_with fail
  go_loopw [5] (fun u wr => ∃ j : Nat, j ≤ n ∧ u = .int .i64 j ∧ Hid (allB (fun k => eqD (b k) (i k) (d k) (b' k) (i' k) (d' k)) j = true) ∧ ∃ m, wr = w.drewN m) (fun k _ => n - (intOf k).toNat)
  case atStart => exact ⟨0, by omega, rfl, rfl, 0, rfl⟩
  case round =>
    obtain ⟨j, hj, rfl, HALL, m, rfl⟩ := hrel
    by_cases hlt : j < n
    · rcases HS.out with h0 | ⟨bb, off, rfl, hsg⟩
      · omega
      rcases HS'.out with h0 | ⟨bb', off', rfl, hsg'⟩
      · omega
      have hrg := hsg.range j hlt
      have hrg' := hsg'.range j hlt
      have HK : Hid (∀ c, eqD (b j) (i j) (d j) (b' j) (i' j) (d' j) = c → (c = true → allB (fun k => eqD (b k) (i k) (d k) (b' k) (i' k) (d' k)) (j + 1) = true) ∧ (c = false → allB (fun k => eqD (b k) (i k) (d k) (b' k) (i' k) (d' k)) n = false)) := fun c hc =>
        ⟨fun h => by show (allB _ j && eqD (b j) (i j) (d j) (b' j) (i' j) (d' j)) = true; rw [HALL.out, hc, h]; rfl, fun h => allB_no hlt (by rw [hc, h])⟩
      have hq : ∀ W, (binOp .neq 48 (dval (b j) (i j) (d j)) (dval (b' j) (i' j) (d' j))).run Tryd.prog W = .ok (.bool (!eqD (b j) (i j) (d j) (b' j) (i' j) (d' j))) W := fun W => run_neq_desc _ _ _ _ _ _ W
      have st : TwoD w ⟨bb, off + j * 3, none⟩ ⟨bb', off' + j * 3, none⟩ (df b i d j) (df b' i' d' j) (w.drewN m) := ⟨hrg, hrg', m, rfl⟩
      clear hsg hsg' hrg hrg' HALL
      have HQ := Lib.hid hq
      clear hq
      cases hc : eqD (b j) (i j) (d j) (b' j) (i' j) (d' j) with
      | true =>
        have HY := Lib.hid ((HK.out true hc).1 rfl)
        have hq : ∀ W, (binOp .neq 48 (dval (b j) (i j) (d j)) (dval (b' j) (i' j) (d' j))).run Tryd.prog W = .ok (.bool false) W := fun W => by rw [HQ.out, hc]; rfl
        clear hc HK HQ
        go_wp2_with fail
        refine wp_region_S (TwoD w ⟨bb, off + j * 3, none⟩ ⟨bb', off' + j * 3, none⟩ (df b i d j) (df b' i' d' j)) (by kernel_rfl) (by kernel_rfl) ⟨st.s, st.s', m + 1, rfl⟩ ?_
        clear st
        intro hne
        first | go_big_quiet_skip | (go_big_quiet_want; go_big_quiet_op; go_big_quiet_on)
        first | go_big_quiet_skip | (go_big_quiet_want; go_big_quiet_op; go_big_quiet_on)
        first | go_big_quiet_skip | (go_big_quiet_want; go_big_quiet_op; go_big_quiet_on)
        refine q_load rfl 48 (.tmp 19) rfl _ _ rfl [.int .i64 (b j), .int .i64 (i j), .int .i64 (d j)] _ (fun W h => h.s) Tryd.underlying48 rfl (by kernel_rfl) ?_
        refine wpQuiet_frame (by simp only [Act.put, List.setIfInBounds_toArray, List.set_cons_succ, List.set_cons_zero]; exact rfl) ?_
        first | go_big_quiet_skip | (go_big_quiet_want; go_big_quiet_op; go_big_quiet_on)
        first | go_big_quiet_skip | (go_big_quiet_want; go_big_quiet_op; go_big_quiet_on)
        first | go_big_quiet_skip | (go_big_quiet_want; go_big_quiet_op; go_big_quiet_on)
        refine q_load rfl 48 (.tmp 23) rfl _ _ rfl [.int .i64 (b' j), .int .i64 (i' j), .int .i64 (d' j)] _ (fun W h => h.s') Tryd.underlying48 rfl (by kernel_rfl) ?_
        refine wpQuiet_frame (by simp only [Act.put, List.setIfInBounds_toArray, List.set_cons_succ, List.set_cons_zero]; exact rfl) ?_
        first | go_big_quiet_skip | (go_big_quiet_want; go_big_quiet_op; go_big_quiet_on)
        refine wpQuiet_nil ?_
        intro w6 h6
        obtain ⟨m6, hm6⟩ := h6.out.d
        clear h6 hne hq
        go_wp2_with fail
        go_roundw
        case rel => first | exact ⟨j + 1, by omega, by go_num, HY, m6, hm6⟩ | exact ⟨j + 1, by omega, by go_num, HY, m6, rfl⟩
        case measure => simp [intOf]; omega
      | false =>
        have HY := Lib.hid ((HK.out false hc).2 rfl)
        have hq : ∀ W, (binOp .neq 48 (dval (b j) (i j) (d j)) (dval (b' j) (i' j) (d' j))).run Tryd.prog W = .ok (.bool true) W := fun W => by rw [HQ.out, hc]; rfl
        clear hc HK HQ
        go_wp2_with fail
        refine wp_region_S (TwoD w ⟨bb, off + j * 3, none⟩ ⟨bb', off' + j * 3, none⟩ (df b i d j) (df b' i' d' j)) (by kernel_rfl) (by kernel_rfl) ⟨st.s, st.s', m + 1, rfl⟩ ?_
        clear st
        intro hne
        first | go_big_quiet_skip | (go_big_quiet_want; go_big_quiet_op; go_big_quiet_on)
        first | go_big_quiet_skip | (go_big_quiet_want; go_big_quiet_op; go_big_quiet_on)
        first | go_big_quiet_skip | (go_big_quiet_want; go_big_quiet_op; go_big_quiet_on)
        refine q_load rfl 48 (.tmp 19) rfl _ _ rfl [.int .i64 (b j), .int .i64 (i j), .int .i64 (d j)] _ (fun W h => h.s) Tryd.underlying48 rfl (by kernel_rfl) ?_
        refine wpQuiet_frame (by simp only [Act.put, List.setIfInBounds_toArray, List.set_cons_succ, List.set_cons_zero]; exact rfl) ?_
        first | go_big_quiet_skip | (go_big_quiet_want; go_big_quiet_op; go_big_quiet_on)
        first | go_big_quiet_skip | (go_big_quiet_want; go_big_quiet_op; go_big_quiet_on)
        first | go_big_quiet_skip | (go_big_quiet_want; go_big_quiet_op; go_big_quiet_on)
        refine q_load rfl 48 (.tmp 23) rfl _ _ rfl [.int .i64 (b' j), .int .i64 (i' j), .int .i64 (d' j)] _ (fun W h => h.s') Tryd.underlying48 rfl (by kernel_rfl) ?_
        refine wpQuiet_frame (by simp only [Act.put, List.setIfInBounds_toArray, List.set_cons_succ, List.set_cons_zero]; exact rfl) ?_
        first | go_big_quiet_skip | (go_big_quiet_want; go_big_quiet_op; go_big_quiet_on)
        refine wpQuiet_nil ?_
        intro w6 h6
        obtain ⟨m6, hm6⟩ := h6.out.d
        clear h6 hne hq
        go_wp2_with fail
        go_ret
        exact ⟨by rw [HD.out, HY.out]; rfl, m6, hm6⟩
    · obtain rfl : j = n := by omega
      go_wp2_with fail
      go_ret
      exact ⟨by rw [HD.out, HALL.out]; rfl, m, rfl⟩
end Go.Proofs.YtbbcckopkbiojaaDoor
