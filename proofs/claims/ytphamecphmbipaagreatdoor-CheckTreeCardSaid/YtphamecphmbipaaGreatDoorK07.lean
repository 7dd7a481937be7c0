/- Texts of this claim, merged. -/
import Derived.Test.YtphamecphmbipaaGreatDoorK06
import Derived.Deep.OwnRows
set_option maxRecDepth 100000
set_option maxHeartbeats 16000000

namespace Go.Proofs.YtphamecphmbipaaGreatDoor
open Go.RowKit
set_option linter.unusedVariables false
def At (w:World) (g:Nat) (T:TypeId) (cs:Array Value):Prop:=w.heap[g]? = some (.cells cs T (0,0))
theorem At.lt {w:World} {g:Nat} {T:TypeId} {cs:Array Value} (h:At w g T cs):g < w.heap.size:=(Array.getElem?_eq_some_iff.1 h).1
theorem At.new (w:World) (T:TypeId) (cs:Array Value):At (w.alloc (.cells cs T)) w.heap.size T cs:=heap_alloc_new w _
theorem At.alloc {w:World} {g:Nat} {T:TypeId} {cs:Array Value} (h:At w g T cs) (o:Obj):At (w.alloc o) g T cs:=heap_alloc_keep h o
theorem At.below {w w':World} {g:Nat} {T:TypeId} {cs:Array Value} (h:At w g T cs) {B:Nat} (hb:Below B w w') (hg:g < B):At w' g T cs:=(hb.block g hg).trans h
theorem At.only {w w':World} {g:Nat} {T:TypeId} {cs:Array Value} (h:At w g T cs) {b:Nat} (hb:Only b w w') (hg:g ≠ b):At w' g T cs:=(hb.block g hg).trans h
theorem At.cell {w:World} {g:Nat} {T:TypeId} {cs:Array Value} (h:At w g T cs) {i:Nat} {v:Value} (hi:cs[i]? = some v):w.cell? ⟨g,i,none⟩ = some v:=cell_of_heap h hi
theorem At.range {w:World} {g:Nat} {T:TypeId} {cs:Array Value} (h:At w g T cs):w.rangeAt g 0 cs.toList:=by
 intro j v hj
 rw [Nat.zero_add]
 exact cell_of_heap h (by simpa using hj)
theorem wp_storeAt {P:Program} {w:World} {ops:Array Oper} {rest:List Oper} {o:Oper} {a:Act} {Q:Exit → Act → World → Prop} (hgd:o.guard = none) (T:TypeId) (p q:Operand) (ho:o.op = .store T p q)
  (g:Nat) (cs old:Array Value) (hx:a.eval p = .pointer (some ⟨g,0,none⟩)) (hy:a.eval q = .agg cs) (hI:At w g T old) (hi:(P.info? T).map (·.size) = some cs.size) (hs:old.size = cs.size) (h1:cs.all (·.oneCell') = true)
  (h:∀ w',At w' g T cs → Only g w w' → wpList P ops Q rest (a.put o.dst undef) w'):wpList P ops Q (o :: rest) a w :=
 wpList_store_row hgd T p q ho g cs hx hy T _ hI hi hs h1 (h _ (setRow_heap w g _ cs _ _ hI) (only_setRow w g _ hI hs.symm))
theorem wp_loadAtG {P:Program} {w:World} {ops:Array Oper} {rest:List Oper} {o:Oper} {a:Act} {Q:Exit → Act → World → Prop} (hw:Region.wanted o (yielded ops a.tmps) = true) (T:TypeId) (p:Operand) (ho:o.op = .load T p)
  (g:Nat) (cs:Array Value) (d:TypeDesc) (hx:a.eval p = .pointer (some ⟨g,0,none⟩)) (hI:At w g T cs) (hu:P.underlying T = some d) (hd:(match d with | .struct _ | .array _ _ => true | _ => false) = true) (hi:(P.info? T).map (·.size) = some cs.size)
  (h:wpList P ops Q rest (a.put o.dst (.agg cs)) w):wpList P ops Q (o :: rest) a w :=
 BigFrame.wpList_want hw fun _ hK => wp_load_row T p ho g hx T cs (0,0) d hI hu hd hi (hK _ _ h)
theorem wp_loadBlkG {w:World} {ops:Array Oper} {rest:List Oper} {o:Oper} {a:Act} {Q:Exit → Act → World → Prop} (hw:Region.wanted o (yielded ops a.tmps) = true) (p:Operand) (ho:o.op = .load 32 p)
  (g:Nat) (z:Nat → Int) (hx:a.eval p = .pointer (some ⟨g,0,none⟩)) (hB:Blk w g 32 256 z)
  (h:wpList Tryz.prog ops Q rest (a.put o.dst (bval z)) w):wpList Tryz.prog ops Q (o :: rest) a w :=
 BigFrame.wpList_want hw fun _ hK => wp_load_row 32 p ho g hx 32 (Ks .u8 256 z).toArray (0,0) _ hB Tryz.underlying32 rfl (info_block' _) (hK _ _ h)
abbrev gval (G S I J:Int):Value:=.agg #[.int .i64 G,.int .i64 S,.int .i64 I,.int .i64 J]
abbrev gcells (G S I J:Int):Array Value:=#[.int .i64 G,.int .i64 S,.int .i64 I,.int .i64 J]
def mayG (G S I J:Int):Bool:=decide (1 ≤ G ∧ G ≤ 4 ∧ 16 ≤ S ∧ S ≤ 512 ∧ 4 ≤ I ∧ I ≤ 64 ∧ I % 4 = 0 ∧ 40 ≤ J ∧ J ≤ 256 ∧ 3 + I / 4 ≤ S ∧ 2 + J + G * S ≤ 2048)
theorem mayG_iff (G S I J:Int):mayG G S I J = true ↔ 1 ≤ G ∧ G ≤ 4 ∧ 16 ≤ S ∧ S ≤ 512 ∧ 4 ≤ I ∧ I ≤ 64 ∧ I % 4 = 0 ∧ 40 ≤ J ∧ J ≤ 256 ∧ 3 + I / 4 ≤ S ∧ 2 + J + G * S ≤ 2048:=by unfold mayG;exact decide_eq_true_iff
theorem mayG_no {G S I J:Int} (h:¬ (1 ≤ G ∧ G ≤ 4 ∧ 16 ≤ S ∧ S ≤ 512 ∧ 4 ≤ I ∧ I ≤ 64 ∧ I % 4 = 0 ∧ 40 ≤ J ∧ J ≤ 256 ∧ 3 + I / 4 ≤ S ∧ 2 + J + G * S ≤ 2048)):mayG G S I J = false:=by unfold mayG;exact decide_eq_false h
theorem i64_quo4 (I:Int) (h:4 ≤ I):I.tdiv 4 = I / 4:=Int.tdiv_eq_ediv_of_nonneg (by omega)
theorem i64_rem4 (I:Int) (h:4 ≤ I):I.tmod 4 = I % 4:=Int.tmod_eq_emod_of_nonneg (by omega)
theorem GS_bd {G S:Int} (h1:1 ≤ G) (h2:G ≤ 4) (h3:16 ≤ S) (h4:S ≤ 512):0 ≤ G * S ∧ G * S ≤ 2048:=by
 have:0 ≤ G * S:=Int.mul_nonneg (by omega) (by omega)
 have h:=Int.mul_le_mul h2 h4 (by omega) (by omega:(0:Int) ≤ 4)
 omega
theorem geoMay_any (G S I J:Int) (w:World):Calls Tryz.prog 38 #[gval G S I J] w fun e w' => e = .returned (.bool (mayG G S I J)) ∧ Below w.heap.size w w':=by
 have HA:=Lib.hid (At.new w 23 (gcells G S I J))
 have HL:Hid (Below w.heap.size w (w.alloc (.cells (gcells G S I J) 23))):=(Below.refl _ _).alloc (Nat.le_refl _) _
 have c0:(w.alloc (.cells #[.int .i64 G,.int .i64 S,.int .i64 I,.int .i64 J] 23)).cell? ⟨w.heap.size,0,none⟩ = some (.int .i64 G):=HA.out.cell (i:=0) rfl
 have c1:(w.alloc (.cells #[.int .i64 G,.int .i64 S,.int .i64 I,.int .i64 J] 23)).cell? ⟨w.heap.size,1,none⟩ = some (.int .i64 S):=HA.out.cell (i:=1) rfl
 have c2:(w.alloc (.cells #[.int .i64 G,.int .i64 S,.int .i64 I,.int .i64 J] 23)).cell? ⟨w.heap.size,2,none⟩ = some (.int .i64 I):=HA.out.cell (i:=2) rfl
 have c3:(w.alloc (.cells #[.int .i64 G,.int .i64 S,.int .i64 I,.int .i64 J] 23)).cell? ⟨w.heap.size,3,none⟩ = some (.int .i64 J):=HA.out.cell (i:=3) rfl
 go_enter Tryz.func38,Tryz.ntmps38
 by_cases h1:1 ≤ G
 rotate_left
 ·have HN:Hid (mayG G S I J = false):=mayG_no fun h => by omega
  have nh1:G < 1:=by omega
  go_wp2_with fail
  go_ret
  exact ⟨by rw [HN.out];rfl,HL.out⟩
 have nh1:¬ G < 1:=by omega
 by_cases h2:G ≤ 4
 rotate_left
 ·have HN:Hid (mayG G S I J = false):=mayG_no fun h => by omega
  have nh2:4 < G:=by omega
  go_wp2_with fail
  go_ret
  exact ⟨by rw [HN.out];rfl,HL.out⟩
 have nh2:¬ 4 < G:=by omega
 by_cases h3:16 ≤ S
 rotate_left
 ·have HN:Hid (mayG G S I J = false):=mayG_no fun h => by omega
  have nh3:S < 16:=by omega
  go_wp2_with fail
  go_ret
  exact ⟨by rw [HN.out];rfl,HL.out⟩
 have nh3:¬ S < 16:=by omega
 by_cases h4:S ≤ 512
 rotate_left
 ·have HN:Hid (mayG G S I J = false):=mayG_no fun h => by omega
  have nh4:512 < S:=by omega
  go_wp2_with fail
  go_ret
  exact ⟨by rw [HN.out];rfl,HL.out⟩
 have nh4:¬ 512 < S:=by omega
 by_cases h5:4 ≤ I
 rotate_left
 ·have HN:Hid (mayG G S I J = false):=mayG_no fun h => by omega
  have nh5:I < 4:=by omega
  go_wp2_with fail
  go_ret
  exact ⟨by rw [HN.out];rfl,HL.out⟩
 have nh5:¬ I < 4:=by omega
 have t1:=i64_quo4 I h5
 have t2:=i64_rem4 I h5
 by_cases h6:I ≤ 64
 rotate_left
 ·have HN:Hid (mayG G S I J = false):=mayG_no fun h => by omega
  have nh6:64 < I:=by omega
  go_wp2_with fail
  go_ret
  exact ⟨by rw [HN.out];rfl,HL.out⟩
 have nh6:¬ 64 < I:=by omega
 by_cases h7:I % 4 = 0
 rotate_left
 ·have HN:Hid (mayG G S I J = false):=mayG_no fun h => by omega
  have q7:(I % 4 != 0) = true:=by simpa using h7
  go_wp2_with fail
  go_ret
  exact ⟨by rw [HN.out];rfl,HL.out⟩
 have q7:(I % 4 != 0) = false:=by simpa using h7
 by_cases h8:40 ≤ J
 rotate_left
 ·have HN:Hid (mayG G S I J = false):=mayG_no fun h => by omega
  have nh8:J < 40:=by omega
  go_wp2_with fail
  go_ret
  exact ⟨by rw [HN.out];rfl,HL.out⟩
 have nh8:¬ J < 40:=by omega
 by_cases h9:J ≤ 256
 rotate_left
 ·have HN:Hid (mayG G S I J = false):=mayG_no fun h => by omega
  have nh9:256 < J:=by omega
  go_wp2_with fail
  go_ret
  exact ⟨by rw [HN.out];rfl,HL.out⟩
 have nh9:¬ 256 < J:=by omega
 obtain ⟨g0,g1⟩:=GS_bd h1 h2 h3 h4
 have w1:IntKind.i64.wrap (G * S) = G * S:=IntWalk.i64_in _ (by omega)
 by_cases h10:3 + I / 4 ≤ S
 rotate_left
 ·have HN:Hid (mayG G S I J = false):=mayG_no fun h => by omega
  have n10:S < 2 + I / 4 + 1:=by omega
  have n11:¬ 3 + I / 4 ≤ S:=by omega
  go_wp2_with fail
  go_ret
  exact ⟨by rw [HN.out];rfl,HL.out⟩
 have n10:¬ S < 2 + I / 4 + 1:=by omega
 have HY:Hid (mayG G S I J = decide (2 + J + G * S ≤ 2048)):=by
  show _ = _
  rw [Bool.eq_iff_iff,mayG_iff,decide_eq_true_eq]
  exact ⟨fun h => h.2.2.2.2.2.2.2.2.2.2,fun h => ⟨h1,h2,h3,h4,h5,h6,h7,h8,h9,h10,h⟩⟩
 go_wp2_with fail
 go_ret
 exact ⟨by rw [HY.out];rfl,HL.out⟩
theorem rMay5_any (G S I J:Int) (w:World):Calls Tryz.prog 56 #[gval G S I J] w fun e w' => e = .returned (.bool (mayG G S I J)) ∧ Below w.heap.size w w':=by
 have HA:=Lib.hid (At.new w 23 (gcells G S I J))
 have HL:Hid (Below w.heap.size w (w.alloc (.cells (gcells G S I J) 23))):=(Below.refl _ _).alloc (Nat.le_refl _) _
 have c0:(w.alloc (.cells #[.int .i64 G,.int .i64 S,.int .i64 I,.int .i64 J] 23)).cell? ⟨w.heap.size,0,none⟩ = some (.int .i64 G):=HA.out.cell (i:=0) rfl
 have c1:(w.alloc (.cells #[.int .i64 G,.int .i64 S,.int .i64 I,.int .i64 J] 23)).cell? ⟨w.heap.size,1,none⟩ = some (.int .i64 S):=HA.out.cell (i:=1) rfl
 have c2:(w.alloc (.cells #[.int .i64 G,.int .i64 S,.int .i64 I,.int .i64 J] 23)).cell? ⟨w.heap.size,2,none⟩ = some (.int .i64 I):=HA.out.cell (i:=2) rfl
 have c3:(w.alloc (.cells #[.int .i64 G,.int .i64 S,.int .i64 I,.int .i64 J] 23)).cell? ⟨w.heap.size,3,none⟩ = some (.int .i64 J):=HA.out.cell (i:=3) rfl
 go_enter Tryz.func56,Tryz.ntmps56
 by_cases h1:1 ≤ G
 rotate_left
 ·have HN:Hid (mayG G S I J = false):=mayG_no fun h => by omega
  have nh1:G < 1:=by omega
  go_wp2_with fail
  go_ret
  exact ⟨by rw [HN.out];rfl,HL.out⟩
 have nh1:¬ G < 1:=by omega
 by_cases h2:G ≤ 4
 rotate_left
 ·have HN:Hid (mayG G S I J = false):=mayG_no fun h => by omega
  have nh2:4 < G:=by omega
  go_wp2_with fail
  go_ret
  exact ⟨by rw [HN.out];rfl,HL.out⟩
 have nh2:¬ 4 < G:=by omega
 by_cases h3:16 ≤ S
 rotate_left
 ·have HN:Hid (mayG G S I J = false):=mayG_no fun h => by omega
  have nh3:S < 16:=by omega
  go_wp2_with fail
  go_ret
  exact ⟨by rw [HN.out];rfl,HL.out⟩
 have nh3:¬ S < 16:=by omega
 by_cases h4:S ≤ 512
 rotate_left
 ·have HN:Hid (mayG G S I J = false):=mayG_no fun h => by omega
  have nh4:512 < S:=by omega
  go_wp2_with fail
  go_ret
  exact ⟨by rw [HN.out];rfl,HL.out⟩
 have nh4:¬ 512 < S:=by omega
 by_cases h5:4 ≤ I
 rotate_left
 ·have HN:Hid (mayG G S I J = false):=mayG_no fun h => by omega
  have nh5:I < 4:=by omega
  go_wp2_with fail
  go_ret
  exact ⟨by rw [HN.out];rfl,HL.out⟩
 have nh5:¬ I < 4:=by omega
 have t1:=i64_quo4 I h5
 have t2:=i64_rem4 I h5
 by_cases h6:I ≤ 64
 rotate_left
 ·have HN:Hid (mayG G S I J = false):=mayG_no fun h => by omega
  have nh6:64 < I:=by omega
  go_wp2_with fail
  go_ret
  exact ⟨by rw [HN.out];rfl,HL.out⟩
 have nh6:¬ 64 < I:=by omega
 by_cases h7:I % 4 = 0
 rotate_left
 ·have HN:Hid (mayG G S I J = false):=mayG_no fun h => by omega
  have q7:(I % 4 != 0) = true:=by simpa using h7
  go_wp2_with fail
  go_ret
  exact ⟨by rw [HN.out];rfl,HL.out⟩
 have q7:(I % 4 != 0) = false:=by simpa using h7
 by_cases h8:40 ≤ J
 rotate_left
 ·have HN:Hid (mayG G S I J = false):=mayG_no fun h => by omega
  have nh8:J < 40:=by omega
  go_wp2_with fail
  go_ret
  exact ⟨by rw [HN.out];rfl,HL.out⟩
 have nh8:¬ J < 40:=by omega
 by_cases h9:J ≤ 256
 rotate_left
 ·have HN:Hid (mayG G S I J = false):=mayG_no fun h => by omega
  have nh9:256 < J:=by omega
  go_wp2_with fail
  go_ret
  exact ⟨by rw [HN.out];rfl,HL.out⟩
 have nh9:¬ 256 < J:=by omega
 obtain ⟨g0,g1⟩:=GS_bd h1 h2 h3 h4
 have w1:IntKind.i64.wrap (G * S) = G * S:=IntWalk.i64_in _ (by omega)
 by_cases h10:3 + I / 4 ≤ S
 rotate_left
 ·have HN:Hid (mayG G S I J = false):=mayG_no fun h => by omega
  have n10:S < 2 + I / 4 + 1:=by omega
  have n11:¬ 3 + I / 4 ≤ S:=by omega
  go_wp2_with fail
  go_ret
  exact ⟨by rw [HN.out];rfl,HL.out⟩
 have n10:¬ S < 2 + I / 4 + 1:=by omega
 have HY:Hid (mayG G S I J = decide (2 + J + G * S ≤ 2048)):=by
  show _ = _
  rw [Bool.eq_iff_iff,mayG_iff,decide_eq_true_eq]
  exact ⟨fun h => h.2.2.2.2.2.2.2.2.2.2,fun h => ⟨h1,h2,h3,h4,h5,h6,h7,h8,h9,h10,h⟩⟩
 go_wp2_with fail
 go_ret
 exact ⟨by rw [HY.out];rfl,HL.out⟩
end Go.Proofs.YtphamecphmbipaaGreatDoor

namespace Go.Proofs.YtphamecphmbipaaGreatDoor.Mv
open Go.RowKit Go.Proofs.YtphamecphmbipaaGreatDoor
set_option linter.unusedVariables false
structure St where
 n:Nat
 v:Value
def plainOp (o:Oper):Bool:=match o.op with | .move _ | .assign _ | .pick _ _ _ | .build _ _ | .load _ _ | .binOp _ _ _ _ _ | .unOp _ _ _ | .convert _ _ _ | .fieldAddr _ _ _ | .field _ _ _ | .indexAddr _ _ _ | .index _ _ _ | .extract _ _ | .slice _ _ _ _ _ => true | _ => false
def mv (o:Oper):Bool:=!plainOp o
def chainB (md:Region.Mode) (ops:Array Oper):Bool :=
 (List.range ops.size).all fun j => (List.range j).all fun i => match ops[j]?,ops[i]? with
  | some oj,some oi => !(mv oi && mv oj) || (List.range j).any fun p => decide (i ≤ p) && ((ops[p]?).map mv).getD false && oj.after.any fun e => Region.binds md e && e.on == p
  | _,_ => true
section
variable {P:Program} {ops:Array Oper} {md:Region.Mode} {σ:Type} {C:σ → World → Prop}
theorem chainB_spec (h:chainB md ops = true) {i j:Nat} {oi oj:Oper} (hi:ops[i]? = some oi) (hj:ops[j]? = some oj) (ci:mv oi = true) (cj:mv oj = true) (hij:i < j) :
  ∃ p op,i ≤ p ∧ p < j ∧ ops[p]? = some op ∧ mv op = true ∧ ∃ e ∈ oj.after,Region.binds md e = true ∧ e.on = p:=by
 unfold chainB at h
 rw [List.all_eq_true] at h
 have h1:=h j (List.mem_range.2 (Array.getElem?_eq_some_iff.1 hj).1)
 rw [List.all_eq_true] at h1
 have h2:=h1 i (List.mem_range.2 hij)
 rw [hi,hj] at h2
 simp only [ci,cj,Bool.and_true,Bool.not_true,Bool.false_or,List.any_eq_true,Bool.and_eq_true,decide_eq_true_eq] at h2
 obtain ⟨p,hp,⟨hip,hc⟩,hany⟩:=h2
 rw [Array.any_eq_true'] at hany
 obtain ⟨e,he,hb⟩:=hany
 rw [Bool.and_eq_true,beq_iff_eq] at hb
 cases ho:ops[p]? with
 | none => rw [ho] at hc;cases hc
 | some op => rw [ho] at hc;exact ⟨p,op,hip,List.mem_range.1 hp,ho,by simpa using hc,e,he,hb.1,hb.2⟩
def stillUpon (w:World) (v:Value):Result Next → Prop
 | .ok (.value u) w' => w' = w ∧ u = v
 | .ok .skip w' => w' = w ∧ v = undef
 | _ => False
def movesUpon (P:Program) (R:Value → World → Prop):Result Next → Prop
 | .ok (.value u) w' => R u w'
 | .ok .skip w' => R undef w'
 | .ok (.enter f args) w' => Calls P f args w' fun e w'' => ∃ v,e = .returned v ∧ R v w''
 | _ => False
theorem movesUpon_mono {R R':Value → World → Prop} (h:∀ v w,R v w → R' v w) {r:Result Next} (hr:movesUpon P R r):movesUpon P R' r:=by
 unfold movesUpon at *
 split at hr
 ·exact h _ _ hr
 ·exact h _ _ hr
 ·exact hr.mono fun e w' hh => by obtain ⟨v,he,hR⟩:=hh;exact ⟨v,he,h _ _ hR⟩
 ·exact hr
theorem movesUpon_some {R:Value → World → Prop} {r:Result Next} (hr:movesUpon P R r) (hex:∀ f args w (R':Ending → World → Prop),Calls P f args w R' → ∃ e w',R' e w'):∃ v w,R v w:=by
 unfold movesUpon at hr
 split at hr
 ·exact ⟨_,_,hr⟩
 ·exact ⟨_,_,hr⟩
 ·obtain ⟨e,w',v,_,hR⟩:=hex _ _ _ _ hr;exact ⟨v,w',hR⟩
 ·exact hr.elim
def stillIn (P:Program) (C:σ → World → Prop) (o:Oper) (a:Act) (v:Value):Prop:=∀ w,(∃ s,C s w) → stillUpon w v ((execOp a.eval o).run P w)
def moveIn (P:Program) (C:σ → World → Prop) (s:σ) (o:Oper) (a:Act) (K:σ → Value → Prop):Prop:=∀ w,C s w → movesUpon P (fun v w' => ∃ s',C s' w' ∧ K s' v) ((execOp a.eval o).run P w)
def LX (P:Program) (ops:Array Oper) (C:σ → World → Prop) (o:Oper) (a:Act) (s:σ) (K:σ → Act → Prop):Prop :=
 (Region.wanted o (yielded ops a.tmps) = true ∧ ((mv o = true ∧ moveIn P C s o a (fun s' v => K s' (a.put o.dst v))) ∨ (mv o = false ∧ ∃ v,stillIn P C o a v ∧ K s (a.put o.dst v)))) ∨
 (Region.wanted o (yielded ops a.tmps) = false ∧ K s (a.put o.dst undef))
theorem stillIn_one {o:Oper} {a:Act} {u v:Value} {s:σ} {w:World} (hC:C s w) (h:stillIn P C o a u) (k:stillIn P C o a v):u = v:=by
 have h1:=h w ⟨s,hC⟩
 have h2:=k w ⟨s,hC⟩
 generalize (execOp a.eval o).run P w = r at *
 cases r with
 | ok n w' =>
  cases n <;> simp only [stillUpon] at h1 h2
  ·exact h1.2.symm.trans h2.2
  ·exact h1.2.trans h2.2.symm
 | halt x w' => simp only [stillUpon] at h1
def linOp (P:Program) (ops:Array Oper) (C:σ → World → Prop) (i:Nat) (K:σ → Act → Prop) (s:σ) (a:Act):Prop :=
 match ops[i]? with
 | none => K s a
 | some o => LX P ops C o a s K
def wpAnyL (P:Program) (md:Region.Mode) (ops:Array Oper) (C:σ → World → Prop) (Q:σ → Act → Prop):Nat → Array Bool → σ → Act → Prop
 | 0,listed,s,a => Region.ready md ops listed = [] ∧ Q s a
 | fuel + 1,listed,s,a => (Region.ready md ops listed = [] → Q s a) ∧ ∀ i ∈ Region.ready md ops listed,linOp P ops C i (wpAnyL P md ops C Q fuel (listed.setIfInBounds i true)) s a
def NE (C:σ → World → Prop) (s:σ):Prop:=∃ w,C s w
theorem LX.mono {o:Oper} {a:Act} {s:σ} {K K':σ → Act → Prop} (hs:NE C s) (h:∀ s a,NE C s → K s a → K' s a) (hh:LX P ops C o a s K):LX P ops C o a s K':=by
 rcases hh with ⟨hw,⟨hm,hk⟩ | ⟨hm,v,hv,hk⟩⟩ | ⟨hw,hk⟩
 ·exact .inl ⟨hw,.inl ⟨hm,fun w hC => movesUpon_mono (fun v w' hh => by obtain ⟨s',h1,h2⟩:=hh;exact ⟨s',h1,h _ _ ⟨_,h1⟩ h2⟩) (hk w hC)⟩⟩
 ·exact .inl ⟨hw,.inr ⟨hm,v,hv,h _ _ hs hk⟩⟩
 ·exact .inr ⟨hw,h _ _ hs hk⟩
theorem linOp_mono {i:Nat} {s:σ} {a:Act} {K K':σ → Act → Prop} (hs:NE C s) (h:∀ s a,NE C s → K s a → K' s a) (hh:linOp P ops C i K s a):linOp P ops C i K' s a:=by
 unfold linOp at *
 cases ho:ops[i]? with
 | none => rw [ho] at hh;exact h _ _ hs hh
 | some o => rw [ho] at hh;exact LX.mono hs h hh
theorem wpOp_of_lin {i:Nat} {s:σ} {a:Act} {K:σ → Act → Prop} {K':Act → World → Prop} {Q':Exit → Act → World → Prop} {w:World} (hC:C s w) (h:∀ s a w',C s w' → K s a → K' a w') (hh:linOp P ops C i K s a):wpOp P ops Q' i K' a w:=by
 unfold linOp at hh
 unfold wpOp
 split
 ·rename_i ho;simp only [ho] at hh;exact h _ _ _ hC hh
 ·rename_i o ho
  simp only [ho] at hh
  rcases hh with ⟨hw,hy⟩ | ⟨hw,hk⟩
  ·simp only [hw,if_true]
   refine .inl ?_
   unfold Oper.wp
   rcases hy with ⟨_,hk⟩ | ⟨_,v,hs,hk⟩
   ·have h3:=hk w hC
    generalize (execOp a.eval o).run P w = r at *
    cases r with
    | ok n w' =>
     cases n <;> simp only [movesUpon] at h3 <;> simp only [Oper.upon]
     ·obtain ⟨s',h4,h5⟩:=h3;exact h _ _ _ h4 h5
     ·obtain ⟨s',h4,h5⟩:=h3;exact h _ _ _ h4 h5
     ·exact h3.mono fun e w'' ⟨v,he,s',h4,h5⟩ => by subst he;exact h _ _ _ h4 h5
    | halt x w' => simp only [movesUpon] at h3
   ·have h3:=hs w ⟨_,hC⟩
    generalize (execOp a.eval o).run P w = r at *
    cases r with
    | ok n w' =>
     cases n <;> simp only [stillUpon] at h3 <;> simp only [Oper.upon]
     ·obtain ⟨rfl,rfl⟩:=h3;exact h _ _ _ hC hk
     ·obtain ⟨rfl,rfl⟩:=h3;exact h _ _ _ hC hk
    | halt x w' => simp only [stillUpon] at h3
  ·simp only [hw];exact h _ _ _ hC hk
theorem wpAny_of_lin {Q:σ → Act → Prop} {Q':Exit → Act → World → Prop} (hQ:∀ s a w,C s w → Q s a → Q' .normal a w):∀ (fuel:Nat) (listed:Array Bool) (s:σ) (a:Act) (w:World),C s w →
  wpAnyL P md ops C Q fuel listed s a → wpAny P md ops Q' fuel listed a w
 | 0,_,_,_,_,hw,h => ⟨h.1,hQ _ _ _ hw h.2⟩
 | fuel + 1,_,_,_,_,hw,h => ⟨fun h0 => hQ _ _ _ hw (h.1 h0),fun i hi => wpOp_of_lin hw (fun s' a' w' hw' => wpAny_of_lin hQ fuel _ s' a' w' hw') (h.2 i hi)⟩
theorem LX.linOp {i:Nat} {s:σ} {o:Oper} {a:Act} (hi:ops[i]? = some o) {K:σ → Act → Prop} (h:LX P ops C o a s K):linOp P ops C i K s a:=by
 unfold Mv.linOp
 simp only [hi]
 exact h
theorem linOp_put (hex:∀ f args w (R':Ending → World → Prop),Calls P f args w R' → ∃ e w',R' e w') {j:Nat} {oi oj:Oper} (hj:ops[j]? = some oj) (hap:oi.apart ops oj = true)
  (hsi:∀ cs b,oi.op ≠ .select cs b) (hsj:∀ cs b,oj.op ≠ .select cs b) (hcc:mv oi = false ∨ mv oj = false) {K:σ → Act → Prop} {a:Act} {s:σ} (hne:NE C s)
  (h:LX P ops C oi a s (fun s1 a1 => linOp P ops C j K s1 a1)):linOp P ops C j (fun s' a' => LX P ops C oi a' s' K) s a:=by
 obtain ⟨h1,h2,h3⟩:=Oper.apart_spec hap
 have ei:∀ u:Value,execOp (a.put oj.dst u).eval oi = execOp a.eval oi:=fun u => execOp_put oi hsi a oj.dst u h3
 have wi:∀ u:Value,Region.wanted oi (yielded ops (a.put oj.dst u).tmps) = Region.wanted oi (yielded ops a.tmps):=fun u => wanted_put oi a oj.dst u h3
 have ej:∀ v:Value,execOp (a.put oi.dst v).eval oj = execOp a.eval oj:=fun v => execOp_put oj hsj a oi.dst v h1
 have wj:∀ v:Value,Region.wanted oj (yielded ops (a.put oi.dst v).tmps) = Region.wanted oj (yielded ops a.tmps):=fun v => wanted_put oj a oi.dst v h1
 have cm:∀ u v:Value,(a.put oi.dst v).put oj.dst u = (a.put oj.dst u).put oi.dst v:=fun u v => Act.put_comm a v u h2
 have sj:∀ u v:Value,stillIn P C oj (a.put oi.dst v) u → stillIn P C oj a u:=fun u v hs => by unfold stillIn at *;rw [ej] at hs;exact hs
 have si:∀ u v:Value,stillIn P C oi a v → stillIn P C oi (a.put oj.dst u) v:=fun u v hs => by unfold stillIn at *;rw [ei];exact hs
 unfold Mv.linOp at *
 simp only [hj] at *
 obtain ⟨w0,hC0⟩:=hne
 rcases h with ⟨hw,⟨hm,hk⟩ | ⟨hm,v,hv,hk⟩⟩ | ⟨hw,hk⟩
 ·
  have hmj:mv oj = false:=by
   rcases hcc with h | h
   ·rw [hm] at h;cases h
   ·exact h
  obtain ⟨v0,w0',s0',hC0',hL0⟩:=movesUpon_some (hk w0 hC0) hex
  rcases hL0 with ⟨hwj,⟨hm2,_⟩ | ⟨_,u,hu,_⟩⟩ | ⟨hwj,_⟩
  ·rw [hmj] at hm2;cases hm2
  ·rw [wj] at hwj
   have hu':=sj u v0 hu
   refine .inl ⟨hwj,.inr ⟨hmj,u,hu',.inl ⟨by rw [wi];exact hw,.inl ⟨hm,fun w hC => ?_⟩⟩⟩⟩
   rw [ei]
   refine movesUpon_mono (fun v w' hh => ?_) (hk w hC)
   obtain ⟨s',hC',hL⟩:=hh
   refine ⟨s',hC',?_⟩
   rcases hL with ⟨hwj2,⟨hm2,_⟩ | ⟨_,u2,hu2,hK2⟩⟩ | ⟨hwj2,_⟩
   ·rw [hmj] at hm2;cases hm2
   ·have:u2 = u:=stillIn_one hC (sj u2 v hu2) hu'
    subst this
    rw [← cm];exact hK2
   ·rw [wj,hwj] at hwj2;cases hwj2
  ·rw [wj] at hwj
   refine .inr ⟨hwj,.inl ⟨by rw [wi];exact hw,.inl ⟨hm,fun w hC => ?_⟩⟩⟩
   rw [ei]
   refine movesUpon_mono (fun v w' hh => ?_) (hk w hC)
   obtain ⟨s',hC',hL⟩:=hh
   refine ⟨s',hC',?_⟩
   rcases hL with ⟨hwj2,_⟩ | ⟨_,hK2⟩
   ·rw [wj,hwj] at hwj2;cases hwj2
   ·rw [← cm];exact hK2
 ·
  rcases hk with ⟨hwj,⟨hm2,hk2⟩ | ⟨hm2,u,hu,hK⟩⟩ | ⟨hwj,hK⟩
  ·rw [wj] at hwj
   refine .inl ⟨hwj,.inl ⟨hm2,fun w hC => ?_⟩⟩
   have:=hk2 w hC
   rw [ej] at this
   refine movesUpon_mono (fun u w' hh => ?_) this
   obtain ⟨s',hC',hK⟩:=hh
   exact ⟨s',hC',.inl ⟨by rw [wi];exact hw,.inr ⟨hm,v,si u v hv,by rw [← cm];exact hK⟩⟩⟩
  ·rw [wj] at hwj
   exact .inl ⟨hwj,.inr ⟨hm2,u,sj u v hu,.inl ⟨by rw [wi];exact hw,.inr ⟨hm,v,si u v hv,by rw [← cm];exact hK⟩⟩⟩⟩
  ·rw [wj] at hwj
   exact .inr ⟨hwj,.inl ⟨by rw [wi];exact hw,.inr ⟨hm,v,si undef v hv,by rw [← cm];exact hK⟩⟩⟩
 ·
  rcases hk with ⟨hwj,⟨hm2,hk2⟩ | ⟨hm2,u,hu,hK⟩⟩ | ⟨hwj,hK⟩
  ·rw [wj] at hwj
   refine .inl ⟨hwj,.inl ⟨hm2,fun w hC => ?_⟩⟩
   have:=hk2 w hC
   rw [ej] at this
   refine movesUpon_mono (fun u w' hh => ?_) this
   obtain ⟨s',hC',hK⟩:=hh
   exact ⟨s',hC',.inr ⟨by rw [wi];exact hw,by rw [← cm];exact hK⟩⟩
  ·rw [wj] at hwj
   exact .inl ⟨hwj,.inr ⟨hm2,u,sj u undef hu,.inr ⟨by rw [wi];exact hw,by rw [← cm];exact hK⟩⟩⟩
  ·rw [wj] at hwj
   exact .inr ⟨hwj,.inr ⟨by rw [wi];exact hw,by rw [← cm];exact hK⟩⟩
def Pre (ops:Array Oper) (listed:Array Bool):Prop:=∀ i j oi oj,ops[i]? = some oi → ops[j]? = some oj → mv oi = true → mv oj = true → i < j → listed.getD j false = true → listed.getD i false = true
theorem getD_both {listed:Array Bool} {i:Nat} (h:listed.getD i true = false):listed.getD i false = false:=by
 rcases Nat.lt_or_ge i listed.size with h' | h'
 ·simp [h'] at h ⊢;exact h
 ·simp [Array.getElem?_eq_none h']
theorem Pre.next (hch:chainB md ops = true) {listed:Array Bool} (h:Pre ops listed) {j:Nat} (hj:j ∈ Region.ready md ops listed):Pre ops (listed.setIfInBounds j true):=by
 intro i m oi om hi hm ci cm him hl
 obtain ⟨hun,oj,hoj,hall⟩:=mem_ready.1 hj
 by_cases hmj:j = m
 ·subst hmj
  rw [hoj] at hm;cases hm
  obtain ⟨p,op,hip,hpj,hp,cp,e,he,hb,heq⟩:=chainB_spec hch hi hoj ci cm him
  have hp':=hall e he hb
  rw [heq] at hp'
  refine getD_set_true ?_
  by_cases hpi:i = p
  ·subst hpi;exact hp'
  ·exact h i p oi op hi hp ci cp (by omega) hp'
 ·rw [getD_set_ne false hmj] at hl
  exact getD_set_true (h i m oi om hi hm ci cm him hl)
def wpLin (P:Program) (ops:Array Oper) (C:σ → World → Prop) (Q:σ → Act → Prop):List Oper → σ → Act → Prop
 | [],s,a => Q s a
 | o :: rest,s,a => LX P ops C o a s (wpLin P ops C Q rest)
/-! ### Steps of the walk -/
theorem v_no_enter (s:Sem Value) (w:World) (f:FuncId) (args:Array Value) (w':World):(do pure (.value (← s)):Sem Next).run P w ≠ .ok (.enter f args) w':=by
 rw [Sem.run_bind]
 cases s.run P w <;> simp [Result.andThen,Sem.run_pure]
theorem plain_no_enter {o:Oper} (ho:plainOp o = true) (a:Act) (w:World) (f:FuncId) (args:Array Value) (w':World):(execOp a.eval o).run P w ≠ .ok (.enter f args) w':=by
 unfold plainOp at ho
 unfold execOp
 split at ho
 case h_3 c x y hop =>
  simp only [hop]
  rw [Sem.run_bind]
  cases (asBool (a.eval c)).run P w <;> simp [Result.andThen,Sem.run_pure]
 case h_15 => cases ho
 all_goals
  rename_i hop
  simp only [hop]
  first | exact v_no_enter _ w f args w' | (rw [Sem.run_pure];intro h;cases h)
theorem wpLin_nil {Q:σ → Act → Prop} {s:σ} {a:Act} (h:Q s a):wpLin P ops C Q [] s a:=h
theorem lin_seg {Q:σ → Act → Prop} {s:σ}:∀ (seg rest:List Oper) (a:Act),seg.all plainOp = true →
  wpQuiet P ops (fun w' => ∃ x:InW (fun w => ∃ s,C s w),w' = x.W) (fun a' => wpLin P ops C Q rest s a') seg a → wpLin P ops C Q (seg ++ rest) s a
 | [],rest,a,_,h => h
 | o :: seg,rest,a,hp,h => by
  rw [List.all_cons,Bool.and_eq_true] at hp
  obtain ⟨hpl,hp'⟩:=hp
  have hnc:mv o = false:=by unfold mv;rw [hpl];rfl
  unfold wpQuiet at h
  by_cases hw:Region.wanted o (yielded ops a.tmps) = true
  ·rw [if_pos hw] at h
   obtain ⟨v,h1,h2⟩:=h
   refine .inl ⟨hw,.inr ⟨hnc,v,fun w hC => ?_,lin_seg seg rest _ hp' h2⟩⟩
   have h3:=h1 w ⟨⟨w,hC⟩,rfl⟩
   unfold Oper.quietAt at h3
   have h4:=fun f args w' => plain_no_enter (P:=P) hpl a w f args w'
   generalize (execOp a.eval o).run P w = r at *
   cases r with
   | ok n w' =>
    cases n <;> simp only [Oper.quietUpon] at h3 <;> simp only [stillUpon]
    ·exact h3
    ·exact h3
    ·exact (h4 _ _ _ rfl).elim
   | halt x w' => simp only [Oper.quietUpon] at h3
  ·rw [if_neg hw] at h
   exact .inr ⟨by simpa using hw,lin_seg seg rest _ hp' h⟩
theorem lin_take {Q:σ → Act → Prop} {s:σ} (n:Nat) {l:List Oper} {a:Act} (hp:(l.take n).all plainOp = true)
  (h:wpQuiet P ops (fun w' => ∃ x:InW (fun w => ∃ s,C s w),w' = x.W) (fun a' => wpLin P ops C Q (l.drop n) s a') (l.take n) a):wpLin P ops C Q l s a:=by
 have:=lin_seg (l.take n) (l.drop n) a hp h
 rwa [List.take_append_drop] at this
theorem lin_move {Q:σ → Act → Prop} {s:σ} {o:Oper} {rest:List Oper} {a:Act} (hw:Region.wanted o (yielded ops a.tmps) = true) (hm:mv o = true)
  (h:∀ w,C s w → movesUpon P (fun v w' => ∃ s',C s' w' ∧ wpLin P ops C Q rest s' (a.put o.dst v)) ((execOp a.eval o).run P w)):wpLin P ops C Q (o :: rest) s a:=.inl ⟨hw,.inl ⟨hm,h⟩⟩
theorem frame {Q:σ → Act → Prop} {l:List Oper} {s:σ} {a a':Act} (e:a = a') (h:wpLin P ops C Q l s a'):wpLin P ops C Q l s a:=e ▸ h
theorem lin_run {Q:σ → Act → Prop} {s:σ} {o:Oper} {rest:List Oper} {a:Act} (hw:Region.wanted o (yielded ops a.tmps) = true) (hm:mv o = true)
  (h:∀ w,C s w → ∃ v w' s',(execOp a.eval o).run P w = .ok (.value v) w' ∧ C s' w' ∧ wpLin P ops C Q rest s' (a.put o.dst v)):wpLin P ops C Q (o :: rest) s a :=
 lin_move hw hm fun w hC => by
  obtain ⟨v,w',s',h1,h2,h3⟩:=h w hC
  rw [h1];exact ⟨s',h2,h3⟩
theorem lin_build {Q:σ → Act → Prop} {s:σ} {o:Oper} {rest:List Oper} {a:Act} (hw:Region.wanted o (yielded ops a.tmps) = true) (t:TypeId) (n:Nat) (xs:Array (Nat × Operand)) (ho:o.op = .buildSlice t n xs)
  (h:∀ w,C s w → ∃ v w' s',(Instr.buildSlice t n (xs.map fun (i,x) => (i,a.eval x))).run P w = .ok v w' ∧ C s' w' ∧ wpLin P ops C Q rest s' (a.put o.dst v)):wpLin P ops C Q (o :: rest) s a:=by
 refine lin_run hw (by unfold mv plainOp;rw [ho];rfl) fun w hC => ?_
 obtain ⟨v,w',s',h1,h2,h3⟩:=h w hC
 refine ⟨v,w',s',?_,h2,h3⟩
 unfold execOp
 simp only [ho,Sem.run_bind,h1,Result.andThen_ok,Sem.run_pure]
theorem lin_build1 {Q:σ → Act → Prop} {s:σ} {o:Oper} {rest:List Oper} {a:Act} (hw:Region.wanted o (yielded ops a.tmps) = true) (t:TypeId) (n i:Nat) (x:Operand) (ho:o.op = .buildSlice t n #[(i,x)])
  (h:∀ w,C s w → ∃ v w' s',(Instr.buildSlice t n #[(i,a.eval x)]).run P w = .ok v w' ∧ C s' w' ∧ wpLin P ops C Q rest s' (a.put o.dst v)):wpLin P ops C Q (o :: rest) s a :=
 lin_build hw t n #[(i,x)] ho (by simpa using h)
theorem lin_append {Q:σ → Act → Prop} {s:σ} {o:Oper} {rest:List Oper} {a:Act} (hw:Region.wanted o (yielded ops a.tmps) = true) (y x:Operand) (t:TypeId)
  (ho:o.op = .call { callee:=.builtin .append,args:=#[y,x],argTypes:=#[t,t] })
  (h:∀ w,C s w → ∃ v w' s',(Builtin.append_ #[t,t] o.type #[a.eval y,a.eval x]).run P w = .ok v w' ∧ C s' w' ∧ wpLin P ops C Q rest s' (a.put o.dst v)):wpLin P ops C Q (o :: rest) s a:=by
 refine lin_run hw (by unfold mv plainOp;rw [ho];rfl) fun w hC => ?_
 obtain ⟨v,w',s',h1,h2,h3⟩:=h w hC
 refine ⟨v,w',s',?_,h2,h3⟩
 unfold execOp
 simp only [ho,resolve,invoke,builtin,Sem.run_bind,Sem.run_pure,Result.andThen_ok,List.map_toArray,List.map_cons,List.map_nil,h1]
theorem calls_some (f:FuncId) (args:Array Value) (w:World) (R:Ending → World → Prop) (h:Calls P f args w R):∃ e w',R e w':=by
 obtain ⟨e,w',_,hR,_⟩:=h []
 exact ⟨e,w',hR⟩
end
end Go.Proofs.YtphamecphmbipaaGreatDoor.Mv

namespace Go.Proofs.YtphamecphmbipaaGreatDoor
open Go.RowKit
set_option linter.unusedVariables false
def Cs (f:Nat → List Value):Nat → List Value
 | 0 => []
 | k + 1 => Cs f k ++ f k
theorem Cs_succ (f:Nat → List Value) (n:Nat):Cs f (n + 1) = Cs f n ++ f n:=rfl
theorem Cs_length {f:Nat → List Value} {m:Nat} (hf:∀ i,(f i).length = m) (n:Nat):(Cs f n).length = n * m:=by
 induction n with
 | zero => simp [Cs]
 | succ n ih => rw [Cs,List.length_append,ih,hf,Nat.succ_mul]
theorem Cs_get {f:Nat → List Value} {m:Nat} (hf:∀ i,(f i).length = m) {n i j:Nat} (hi:i < n) (hj:j < m):(Cs f n)[i * m + j]? = (f i)[j]?:=by
 induction n with
 | zero => omega
 | succ n ih =>
  rw [Cs]
  by_cases h:i < n
  ·rw [List.getElem?_append_left,ih h]
   rw [Cs_length hf]
   have:(i + 1) * m ≤ n * m:=Nat.mul_le_mul_right m h
   rw [Nat.succ_mul] at this
   omega
  ·obtain rfl:i = n:=by omega
   rw [List.getElem?_append_right (by rw [Cs_length hf];omega),Cs_length hf]
   congr 1;omega
theorem Cs_congr {f g:Nat → List Value} {n:Nat} (h:∀ i,i < n → f i = g i):Cs f n = Cs g n:=by
 induction n with
 | zero => rfl
 | succ n ih => rw [Cs,Cs,ih fun i hi => h i (by omega),h n (by omega)]
theorem Cs_cat (f:Nat → List Value) (k m:Nat):Cs f k ++ Cs (fun i => f (k + i)) m = Cs f (k + m):=by
 induction m with
 | zero => simp [Cs]
 | succ m ih => show _ ++ (_ ++ _) = Cs f (k + m) ++ _;rw [← List.append_assoc,ih];rfl
def RSeg (w:World) (b off m n:Nat) (f:Nat → List Value):Prop:=∀ i,i < n → ∀ j v,(f i)[j]? = some v → w.cell? ⟨b,off + i * m + j,none⟩ = some v
def RRow (w:World) (a:Option Addr) (m n:Nat) (f:Nat → List Value):Prop:=n = 0 ∨ ∃ b off,a = some ⟨b,off,none⟩ ∧ RSeg w b off m n f
theorem RSeg.range {w:World} {b off m n:Nat} {f:Nat → List Value} (h:RSeg w b off m n f) (i:Nat) (hi:i < n):w.rangeAt b (off + i * m) (f i):=fun j v hv => h i hi j v hv
theorem RSeg.below {w w':World} {b off m n:Nat} {f:Nat → List Value} (h:RSeg w b off m n f) {B:Nat} (hb:Below B w w') (hB:b < B):RSeg w' b off m n f :=
 fun i hi j v hv => (hb.cell (p:=⟨b,off + i * m + j,none⟩) hB).trans (h i hi j v hv)
theorem RSeg.lt {w:World} {b off m n:Nat} {f:Nat → List Value} (h:RSeg w b off m n f) (hn:0 < n) (hf:f 0 ≠ []):b < w.heap.size:=by
 cases e:f 0 with
 | nil => exact absurd e hf
 | cons x xs => exact World.block_lt_of_cell? w _ (h 0 hn 0 x (by rw [e];rfl))
theorem RRow.below {w w':World} {a:Option Addr} {m n:Nat} {f:Nat → List Value} (h:RRow w a m n f) (hf:f 0 ≠ []) (hb:Below w.heap.size w w'):RRow w' a m n f:=by
 by_cases h0:n = 0
 ·exact .inl h0
 rcases h with h | ⟨b,off,rfl,h⟩
 ·exact .inl h
 ·exact .inr ⟨b,off,rfl,h.below hb (h.lt (by omega) hf)⟩
def RMine (w:World) (base:Nat) (e:TypeId) (m:Nat) (v:Value) (n:Nat) (f:Nat → List Value):Prop:=w.ownsRow base e m v n (Cs f n)
section
variable {w w':World} {base:Nat} {e:TypeId} {m:Nat} {v:Value} {n:Nat} {f:Nat → List Value}
theorem RMine.nil (w:World) (base:Nat) (e:TypeId) (m:Nat) (f:Nat → List Value):RMine w base e m (.slice none 0 0) 0 f:=World.ownsRow_nil w base e m
theorem RMine.below (h:RMine w base e m v n f) (hb:Below w.heap.size w w'):RMine w' base e m v n f:=World.ownsRow.kept h (grown_below (row:=none) hb) (Classical.em _)
theorem RMine.alloc (h:RMine w base e m v n f) (o:Obj):RMine (w.alloc o) base e m v n f:=World.ownsRow.alloc h o
theorem RMine.kept {row:Option Nat} (h:RMine w base e m v n f) (hg:w.grownBy w' row) (hne:v.ownBlock = none ∨ v.ownBlock ≠ row):RMine w' base e m v n f:=World.ownsRow.kept h hg hne
theorem RMine.low {base':Nat} (h:RMine w base e m v n f) (hb:base' ≤ base):RMine w base' e m v n f:=by
 refine ⟨h.1,?_⟩
 rcases h.2 with h' | ⟨g',cap',cur,hv,hbb,hr⟩
 ·exact .inl h'
 ·exact .inr ⟨g',cap',cur,hv,by omega,hr⟩
theorem RMine.form (h:RMine w base e m v n f):∃ a cap,v = .slice a n cap:=by
 rcases h.2 with ⟨rfl,rfl⟩ | ⟨g,cap,cur,rfl,_⟩
 ·exact ⟨none,0,rfl⟩
 ·exact ⟨_,cap,rfl⟩
theorem RMine.form' (h:RMine w base e m v n f) (hn:0 < n):∃ g cap,v = .slice (some ⟨g,0,none⟩) n cap ∧ base ≤ g ∧ g < w.heap.size ∧ n ≤ cap ∧ cap ≤ maxLen:=by
 rcases h.2 with ⟨_,h0⟩ | ⟨g,cap,cur,hv,hb,hg,hn,hc,_⟩
 ·omega
 ·exact ⟨g,cap,hv,hb,(Array.getElem?_eq_some_iff.1 hg).1,hn,hc⟩
theorem RMine.congr {g:Nat → List Value} (h:RMine w base e m v n f) (he:∀ i,i < n → f i = g i):RMine w base e m v n g:=by
 unfold RMine;rw [← Cs_congr he];exact h
theorem RMine.row {a:Option Addr} {cap:Nat} (h:RMine w base e m (.slice a n cap) n f) (hf:∀ i,(f i).length = m):RRow w a m n f:=by
 rcases h.2 with ⟨hv,h0⟩ | ⟨g,cap',cur,hv,hb,hg,hn,hc,hs,ht⟩
 ·exact .inl h0
 ·injection hv with h1 h2 h3
  subst h1
  refine .inr ⟨g,0,rfl,fun i hi j v hj => ?_⟩
  have hjm:j < m:=by have:=(List.getElem?_eq_some_iff.1 hj).1;rwa [hf] at this
  rw [← Cs_get hf hi hjm,← ht] at hj
  have hlt:=(List.getElem?_eq_some_iff.1 hj).1
  rw [List.getElem?_take_of_lt (by rw [List.length_take] at hlt;omega)] at hj
  rw [Nat.zero_add]
  exact cell_of_heap hg (by simpa using hj)
theorem RMine.seg {g cap:Nat} (h:RMine w base e m (.slice (some ⟨g,0,none⟩) n cap) n f) (hf:∀ i,(f i).length = m):RSeg w g 0 m n f:=by
 rcases h.row hf with h0 | ⟨b,off,he,hs⟩
 ·intro i hi;omega
 ·injection he with he;injection he with h1 h2;subst h1 h2;exact hs
theorem RMine.append {k:Nat} {news:List Value} (h:w.ownsRow base e m v (n + k) (Cs f n ++ news)) (hk:news = Cs (fun i => f (n + i)) k):RMine w base e m v (n + k) f:=by
 unfold RMine;rw [← Cs_cat,← hk];exact h
end
theorem cells_news (w:World) (vs:List Value) (T:TypeId):∀ (j:Nat) (u:Value),vs[j]? = some u → (w.alloc (.cells vs.toArray T)).cell? ((⟨w.heap.size,0,none⟩:Addr).add j) = some u:=by
 intro j u hj
 rw [addr_add,Nat.zero_add]
 exact cell_of_heap (heap_alloc_new w _) (by simpa using hj)
structure RArr (W:World) (g:Nat) (T:TypeId) (m n:Nat) (f:Nat → List Value):Prop where
 blk:∃ cs,W.heap[g]? = some (.cells cs T (0,0)) ∧ cs.size = n * m
 seg:RSeg W g 0 m n f
section
variable {W W':World} {g:Nat} {T:TypeId} {m n:Nat} {f:Nat → List Value}
theorem RArr.lt (h:RArr W g T m n f):g < W.heap.size:=by obtain ⟨cs,h,_⟩:=h.blk;exact (Array.getElem?_eq_some_iff.1 h).1
theorem RArr.of_block (h:RArr W g T m n f) (e:W'.heap[g]? = W.heap[g]?):RArr W' g T m n f :=
 ⟨by obtain ⟨cs,h1,h2⟩:=h.blk;exact ⟨cs,e.trans h1,h2⟩,fun i hi j v hv => (World.cell?_of_block (w:=W) e).trans (h.seg i hi j v hv)⟩
theorem RArr.below (h:RArr W g T m n f) (hb:Below W.heap.size W W'):RArr W' g T m n f:=h.of_block (hb.block g h.lt)
theorem RArr.grown (h:RArr W g T m n f) {row:Option Nat} (hb:W.grownBy W' row) (hg:some g ≠ row):RArr W' g T m n f:=h.of_block (hb.block g h.lt hg)
theorem RArr.only (h:RArr W g T m n f) {b:Nat} (hb:Only b W W') (hg:g ≠ b):RArr W' g T m n f:=h.of_block (hb.block g hg)
theorem RArr.alloc (h:RArr W g T m n f) (o:Obj):RArr (W.alloc o) g T m n f:=h.below ((Below.refl _ _).alloc (Nat.le_refl _) o)
theorem RArr.congr {f':Nat → List Value} (h:RArr W g T m n f) (e:∀ i,i < n → f i = f' i):RArr W g T m n f':=⟨h.blk,fun i hi j v hv => h.seg i hi j v (by rw [e i hi];exact hv)⟩
theorem RArr.there (h:RArr W g T m n f) {k:Nat} (hk:k < n):W.there g (k * m) m:=fun j hj => by
 obtain ⟨cs,h1,h2⟩:=h.blk
 have hlt:k * m + j < cs.size:=by
  rw [h2]
  have:(k + 1) * m ≤ n * m:=Nat.mul_le_mul_right m hk
  rw [Nat.succ_mul] at this
  omega
 exact ⟨by rw [cell_of_heap h1 (Array.getElem?_eq_getElem hlt)];rfl,soft_of_heap h1 _⟩
theorem RArr.set (h:RArr W g T m n f) {k:Nat} (hk:k < n) {vs:List Value} (hv:vs.length = m) (hf:∀ i,(f i).length = m):RArr (W.setCells g (k * m) vs) g T m n (fun j => if j = k then vs else f j) ∧ Only g W (W.setCells g (k * m) vs):=by
 have ho:=only_setCells g vs (k * m) W
 have hth:=h.there hk
 obtain ⟨cs,h1,h2⟩:=h.blk
 obtain ⟨c',hc1,hc2⟩:=ho.shape _ _ _ h1
 refine ⟨⟨⟨c',hc2,by rw [hc1,h2]⟩,fun i hi j v hj => ?_⟩,ho⟩
 rw [Nat.zero_add]
 by_cases e:i = k
 ·subst e
  rw [if_pos rfl] at hj
  exact World.rangeAt_setCells_same W g (i * m) vs (by rw [hv];exact hth) j v hj
 ·rw [if_neg e] at hj
  have hr:W.rangeAt g (i * m) (f i):=by have:=h.seg.range i hi;rwa [Nat.zero_add] at this
  refine World.rangeAt_setCells_apart hr g (k * m) vs ?_ j v hj
  rw [hf,hv]
  rcases Nat.lt_or_gt_of_ne e with h' | h'
  ·have:(i + 1) * m ≤ k * m:=Nat.mul_le_mul_right m h'
   rw [Nat.succ_mul] at this;omega
  ·have:(k + 1) * m ≤ i * m:=Nat.mul_le_mul_right m h'
   rw [Nat.succ_mul] at this;omega
theorem RArr.mine (h:RArr W g T m n f) (hf:∀ i,(f i).length = m) {base:Nat} (hb:base ≤ g) (hn:n ≤ maxLen):RMine W base T m (.slice (some ⟨g,0,none⟩) n n) n f:=by
 obtain ⟨cs,h1,h2⟩:=h.blk
 refine ⟨Cs_length hf n,.inr ⟨g,n,cs,rfl,hb,h1,Nat.le_refl _,hn,h2,?_⟩⟩
 rw [List.take_of_length_le (by rw [Array.length_toList,h2];exact Nat.le_refl _)]
 apply List.ext_getElem?
 intro p
 by_cases hp:p < n * m
 ·have hm:0 < m:=by
   rcases Nat.eq_zero_or_pos m with e | e
   ·rw [e,Nat.mul_zero] at hp;omega
   ·exact e
  have hq:p / m < n:=(Nat.div_lt_iff_lt_mul hm).2 hp
  have hr:p % m < m:=Nat.mod_lt _ hm
  have he:p / m * m + p % m = p:=by rw [Nat.mul_comm];exact Nat.div_add_mod p m
  obtain ⟨v,hv⟩:∃ v,(f (p / m))[p % m]? = some v:=⟨_,List.getElem?_eq_getElem (by rw [hf];exact hr)⟩
  have h3:=h.seg (p / m) hq (p % m) v hv
  rw [Nat.zero_add,he] at h3
  have h4:=Cs_get hf hq hr
  rw [he] at h4
  rw [h4,hv,Array.getElem?_toList,Array.getElem?_eq_getElem (by rw [h2];exact hp)]
  have h5:=cell_of_heap h1 (Array.getElem?_eq_getElem (show p < cs.size by rw [h2];exact hp))
  rw [h3] at h5
  exact h5.symm
 ·rw [List.getElem?_eq_none (by rw [Array.length_toList,h2];omega),List.getElem?_eq_none (by rw [Cs_length hf];omega)]
theorem RArr.made (w:World) (z:Array Value) (hz:z.size = m) (hm:0 < m) (n:Nat) (T:TypeId):RArr (w.alloc (.cells (madeCells z (n * m)) T)) w.heap.size T m n (fun _ => z.toList) :=
 ⟨⟨_,heap_alloc_new w _,size_madeCells _ _⟩,fun i hi j v hj => by
  rw [Nat.zero_add]
  have hj':j < m:=by have:=(List.getElem?_eq_some_iff.1 hj).1;rw [Array.length_toList,hz] at this;exact this
  have hlt:i * m + j < n * m:=by
   have:(i + 1) * m ≤ n * m:=Nat.mul_le_mul_right m hi
   rw [Nat.succ_mul] at this;omega
  refine cell_of_heap (heap_alloc_new w _) ?_
  have hmod:(i * m + j) % m = j:=by rw [Nat.mul_comm,Nat.mul_add_mod,Nat.mod_eq_of_lt hj']
  have hz':z[j]? = some v:=by rw [← hj,Array.getElem?_toList]
  simp only [madeCells,Array.getElem?_map,Array.getElem?_range,hlt,if_true,Option.map_some,hz,hmod]
  rw [getElem!_def,hz']⟩
theorem run_mkrow {P:Program} (t e:TypeId) (z:Value) (m bytes:Nat) (ht:P.underlying t = some (.slice e)) (hinfo:(P.info? e).map (fun i => (i.zero,i.size,i.bytes)) = some (some z,m,bytes))
  (kl kc:IntKind) (n:Nat) (hbytes:bytes * n ≤ 281474976710656) (h63:n ≤ 9223372036854775807) (w:World) :
  (Instr.makeSlice t (.int kl (n:Int)) (.int kc (n:Int))).run P w = .ok (.slice (some ⟨w.heap.size,0,none⟩) n n) (w.alloc (.cells (madeCells z.cells (n * m)) e)):=by
 obtain ⟨i,hi,hzz⟩:=Option.map_eq_some_iff.1 hinfo
 simp only [Prod.mk.injEq] at hzz
 obtain ⟨hz,hs,hb⟩:=hzz
 have hb':(i.bytes:Int) * (n:Int) ≤ 281474976710656:=by
  have h:((i.bytes * n:Nat):Int) ≤ 281474976710656:=by rw [hb];omega
  rwa [Int.natCast_mul] at h
 have hr:=run_make (P:=P) w t e i z ht hi hz kl kc n n (by omega) (Int.le_refl _) hb' (by omega)
 simp only [Int.toNat_natCast,hs] at hr
 exact hr
end
section
variable {P:Program} {F:Fence} {nF:Nat} {ops:Array Oper} {rest:List Oper} {o:Oper} {a:Act} {w:World} {Q:Exit → Act → World → Prop}
theorem wpListIn_value (hw:Region.wanted o (yielded ops a.tmps) = true) (hc:∀ c,o.op ≠ .call c) (hd:∀ c,o.op ≠ .defer c) {v:Value} {w':World} (hr:(execOp a.eval o).run P w = .ok (.value v) w')
  (h:wpListIn F nF P ops Q rest (a.put o.dst v) w'):wpListIn F nF P ops Q (o :: rest) a w:=by
 refine wpListIn_step fun K hK => ?_
 simp only [hw,if_true]
 unfold Oper.wpIn
 refine ⟨?_,?_⟩
 ·intro f hf
  unfold Oper.about at hf
  split at hf
  ·rename_i c ho;exact absurd ho (hc c)
  ·cases hf
 ·rw [Oper.semAt_plain F _ _ hd,hr]
  exact hK _ _ h
theorem wpListIn_skipped (hw:Region.wanted o (yielded ops a.tmps) = true) (hc:∀ c,o.op ≠ .call c) (hd:∀ c,o.op ≠ .defer c) {w':World} (hr:(execOp a.eval o).run P w = .ok .skip w')
  (h:wpListIn F nF P ops Q rest (a.put o.dst undef) w'):wpListIn F nF P ops Q (o :: rest) a w:=by
 refine wpListIn_step fun K hK => ?_
 simp only [hw,if_true]
 unfold Oper.wpIn
 refine ⟨?_,?_⟩
 ·intro f hf
  unfold Oper.about at hf
  split at hf
  ·rename_i c ho;exact absurd ho (hc c)
  ·cases hf
 ·rw [Oper.semAt_plain F _ _ hd,hr]
  exact hK _ _ h
theorem wpIn_loadAt (hw:Region.wanted o (yielded ops a.tmps) = true) (T:TypeId) (p:Operand) (ho:o.op = .load T p)
  (g:Nat) (cs:Array Value) (d:TypeDesc) (hx:a.eval p = .pointer (some ⟨g,0,none⟩)) (hI:At w g T cs) (hu:P.underlying T = some d) (hd:(match d with | .struct _ | .array _ _ => true | _ => false) = true) (hi:(P.info? T).map (·.size) = some cs.size)
  (h:wpListIn F nF P ops Q rest (a.put o.dst (.agg cs)) w):wpListIn F nF P ops Q (o :: rest) a w:=by
 refine wpListIn_value hw (by rw [ho];intro c h;cases h) (by rw [ho];intro c h;cases h) ?_ h
 unfold execOp
 simp only [ho,hx,Instr.loadAt,Instr.sureAddr,Sem.run_bind,Sem.run_pure,Result.andThen_ok,run_loadVar_row w g T T cs (0,0) d hI hu hd hi]
theorem wpIn_storeAt (hw:Region.wanted o (yielded ops a.tmps) = true) (T:TypeId) (p q:Operand) (ho:o.op = .store T p q)
  (g:Nat) (cs old:Array Value) (hx:a.eval p = .pointer (some ⟨g,0,none⟩)) (hy:a.eval q = .agg cs) (hI:At w g T old) (hi:(P.info? T).map (·.size) = some cs.size) (hs:old.size = cs.size) (h1:cs.all (·.oneCell') = true)
  (h:∀ w',At w' g T cs → Only g w w' → wpListIn F nF P ops Q rest (a.put o.dst undef) w'):wpListIn F nF P ops Q (o :: rest) a w:=by
 refine wpListIn_skipped hw (by rw [ho];intro c h;cases h) (by rw [ho];intro c h;cases h) (w':=w.setRow g cs) ?_ (h _ (setRow_heap w g _ cs _ _ hI) (only_setRow w g _ hI hs.symm))
 unfold execOp
 simp only [ho,hx,hy,Instr.storeAt,Instr.sureAddr,Sem.run_bind,Sem.run_pure,Result.andThen_ok,run_storeVar_row w g T T old cs hI hi hs h1]
end
end Go.Proofs.YtphamecphmbipaaGreatDoor
