/- Texts of this claim, merged by a program (a claim may have 60 files): Parts, MoveIn, What, Pk9, Pk10, Pk11, Pk12, Sc0, CopyB, Outside, Sc1, Sc2, B15, Pk13, Pk14. -/
import Derived.Test.YtphamecphmbipaaGreatDoorK07
import Derived.Test.YtphamecphmbipaaGreatDoorK02
import Derived.Shelf.Abstract
import Derived.TacticsInMore
import Derived.LoopNIn
import Derived.LoopIn
import Derived.Test.YtphamecphmbipaaGreatDoorK09
import Derived.OrdersIn
import Derived.OwnWalkIn
import Derived.Test.YtphamecphmbipaaGreatDoorK13
import Derived.Test.YtphamecphmbipaaGreatDoorK08
import Derived.Deep.QuietTactic
import Derived.Laws.CopyRow
import Derived.Deep.RegionLaw
import Derived.Test.YtphamecphmbipaaGreatDoorK05
namespace Go.Proofs.YtphamecphmbipaaGreatDoor
open Go.RowKit Go.Shelf
set_option linter.unusedVariables false
attribute [local go_sem] Oper.semAt_some
abbrev pcells (kind group from' size place:Int):Array Value:=#[.int .u8 kind,.int .i64 group,.int .i64 from',.int .i64 size,.int .i64 place]
def ptF (S t J:Int) (k:Nat):Array Value :=
 if k = 0 then pcells 1 0 0 1 0 else if k = 1 then pcells 2 0 1 1 0 else if k = 2 then pcells 3 0 2 J 0 else
 if (k - 3) % 4 = 0 then pcells 4 ((k - 3) / 4:Nat) (2 + J + ((k - 3) / 4:Nat) * S) 1 0 else
 if (k - 3) % 4 = 1 then pcells 5 ((k - 3) / 4:Nat) (2 + J + ((k - 3) / 4:Nat) * S + 1) 1 1 else
 if (k - 3) % 4 = 2 then pcells 6 ((k - 3) / 4:Nat) (2 + J + ((k - 3) / 4:Nat) * S + 2) t 2 else
 pcells 7 ((k - 3) / 4:Nat) (2 + J + ((k - 3) / 4:Nat) * S + 2 + t) (S - 2 - t) (2 + t)
theorem ptF_at (S t J:Int) (γ:Nat) {i:Nat} (hi:i < 4):ptF S t J (3 + 4 * γ + i) = if i = 0 then pcells 4 γ (2 + J + (γ:Int) * S) 1 0 else if i = 1 then pcells 5 γ (2 + J + (γ:Int) * S + 1) 1 1 else if i = 2 then pcells 6 γ (2 + J + (γ:Int) * S + 2) t 2 else pcells 7 γ (2 + J + (γ:Int) * S + 2 + t) (S - 2 - t) (2 + t):=by
 have e1:(3 + 4 * γ + i - 3) % 4 = i:=by omega
 have e2:(3 + 4 * γ + i - 3) / 4 = γ:=by omega
 unfold ptF
 rw [if_neg (by omega),if_neg (by omega),if_neg (by omega),e1,e2]
def PtNeed (B:Nat) (G S I J:Int):Nat → World → Prop:=fun _ W => At W B 23 (gcells G S I J)
theorem zero_part (W:World):(zeroValue 117).run Tryz.prog W = .ok (.agg (pcells 0 0 0 0 0)) W:=by kernel_rfl
theorem idx3_0 (J:Int) (W:World):(Instr.index 164 (.agg #[.int .u8 1,.int .i64 0,.int .i64 0,.int .i64 1,.int .i64 0,.int .u8 2,.int .i64 0,.int .i64 1,.int .i64 1,.int .i64 0,.int .u8 3,.int .i64 0,.int .i64 2,.int .i64 J,.int .i64 0]) (.int .i64 0)).run Tryz.prog W = .ok (.agg (pcells 1 0 0 1 0)) W:=by kernel_rfl
theorem idx3_1 (J:Int) (W:World):(Instr.index 164 (.agg #[.int .u8 1,.int .i64 0,.int .i64 0,.int .i64 1,.int .i64 0,.int .u8 2,.int .i64 0,.int .i64 1,.int .i64 1,.int .i64 0,.int .u8 3,.int .i64 0,.int .i64 2,.int .i64 J,.int .i64 0]) (.int .i64 1)).run Tryz.prog W = .ok (.agg (pcells 2 0 1 1 0)) W:=by kernel_rfl
theorem idx3_2 (J:Int) (W:World):(Instr.index 164 (.agg #[.int .u8 1,.int .i64 0,.int .i64 0,.int .i64 1,.int .i64 0,.int .u8 2,.int .i64 0,.int .i64 1,.int .i64 1,.int .i64 0,.int .u8 3,.int .i64 0,.int .i64 2,.int .i64 J,.int .i64 0]) (.int .i64 2)).run Tryz.prog W = .ok (.agg (pcells 3 0 2 J 0)) W:=by kernel_rfl
theorem idx4_0 (g a b c d t s p:Int) (W:World):(Instr.index 165 (.agg #[.int .u8 4,.int .i64 g,.int .i64 a,.int .i64 1,.int .i64 0,.int .u8 5,.int .i64 g,.int .i64 b,.int .i64 1,.int .i64 1,.int .u8 6,.int .i64 g,.int .i64 c,.int .i64 t,.int .i64 2,.int .u8 7,.int .i64 g,.int .i64 d,.int .i64 s,.int .i64 p]) (.int .i64 0)).run Tryz.prog W = .ok (.agg (pcells 4 g a 1 0)) W:=by kernel_rfl
theorem idx4_1 (g a b c d t s p:Int) (W:World):(Instr.index 165 (.agg #[.int .u8 4,.int .i64 g,.int .i64 a,.int .i64 1,.int .i64 0,.int .u8 5,.int .i64 g,.int .i64 b,.int .i64 1,.int .i64 1,.int .u8 6,.int .i64 g,.int .i64 c,.int .i64 t,.int .i64 2,.int .u8 7,.int .i64 g,.int .i64 d,.int .i64 s,.int .i64 p]) (.int .i64 1)).run Tryz.prog W = .ok (.agg (pcells 5 g b 1 1)) W:=by kernel_rfl
theorem idx4_2 (g a b c d t s p:Int) (W:World):(Instr.index 165 (.agg #[.int .u8 4,.int .i64 g,.int .i64 a,.int .i64 1,.int .i64 0,.int .u8 5,.int .i64 g,.int .i64 b,.int .i64 1,.int .i64 1,.int .u8 6,.int .i64 g,.int .i64 c,.int .i64 t,.int .i64 2,.int .u8 7,.int .i64 g,.int .i64 d,.int .i64 s,.int .i64 p]) (.int .i64 2)).run Tryz.prog W = .ok (.agg (pcells 6 g c t 2)) W:=by kernel_rfl
theorem idx4_3 (g a b c d t s p:Int) (W:World):(Instr.index 165 (.agg #[.int .u8 4,.int .i64 g,.int .i64 a,.int .i64 1,.int .i64 0,.int .u8 5,.int .i64 g,.int .i64 b,.int .i64 1,.int .i64 1,.int .u8 6,.int .i64 g,.int .i64 c,.int .i64 t,.int .i64 2,.int .u8 7,.int .i64 g,.int .i64 d,.int .i64 s,.int .i64 p]) (.int .i64 3)).run Tryz.prog W = .ok (.agg (pcells 7 g d s p)) W:=by kernel_rfl
theorem info_part:(Tryz.prog.info? 117).map (·.size) = some 5:=by kernel_rfl
theorem info_parts3:(Tryz.prog.info? 164).map (·.size) = some 15:=by kernel_rfl
theorem info_parts4:(Tryz.prog.info? 165).map (·.size) = some 20:=by kernel_rfl
abbrev h15 (J:Int):Array Value:=#[.int .u8 1,.int .i64 0,.int .i64 0,.int .i64 1,.int .i64 0,.int .u8 2,.int .i64 0,.int .i64 1,.int .i64 1,.int .i64 0,.int .u8 3,.int .i64 0,.int .i64 2,.int .i64 J,.int .i64 0]
theorem all_h15 (J:Int):(h15 J).all (·.oneCell') = true:=by kernel_rfl
theorem all_p (a b c d e:Int):(pcells a b c d e).all (·.oneCell') = true:=by kernel_rfl
abbrev z15:Array Value:=#[.int .u8 0,.int .i64 0,.int .i64 0,.int .i64 0,.int .i64 0,.int .u8 0,.int .i64 0,.int .i64 0,.int .i64 0,.int .i64 0,.int .u8 0,.int .i64 0,.int .i64 0,.int .i64 0,.int .i64 0]
abbrev h20 (γ a b c d t s p:Int):Array Value:=#[.int .u8 4,.int .i64 γ,.int .i64 a,.int .i64 1,.int .i64 0,.int .u8 5,.int .i64 γ,.int .i64 b,.int .i64 1,.int .i64 1,.int .u8 6,.int .i64 γ,.int .i64 c,.int .i64 t,.int .i64 2,.int .u8 7,.int .i64 γ,.int .i64 d,.int .i64 s,.int .i64 p]
theorem all_h20 (γ a b c d t s p:Int):(h20 γ a b c d t s p).all (·.oneCell') = true:=by kernel_rfl
abbrev z20:Array Value:=#[.int .u8 0,.int .i64 0,.int .i64 0,.int .i64 0,.int .i64 0,.int .u8 0,.int .i64 0,.int .i64 0,.int .i64 0,.int .i64 0,.int .u8 0,.int .i64 0,.int .i64 0,.int .i64 0,.int .i64 0,.int .u8 0,.int .i64 0,.int .i64 0,.int .i64 0,.int .i64 0]
theorem zero_arr4 (W:World):(zeroValue 165).run Tryz.prog W = .ok (.agg z20) W:=by kernel_rfl
theorem zero_arr3 (W:World):(zeroValue 164).run Tryz.prog W = .ok (.agg z15) W:=by kernel_rfl
theorem storedP {w w':World} {o:Obj} (ho:Only w.heap.size (w.alloc o) w'):Below w.heap.size w w':=((Below.refl _ _).alloc (Nat.le_refl _) o).trans (ho.below (Nat.le_refl _))
set_option maxRecDepth 100000 in
set_option maxHeartbeats 2000000 in
theorem parts_iter (n:Nat) (hn:1 ≤ n) (B:Nat) (G S I J:Int) (hm:mayG G S I J = true) :
  IterIx Fence.wide n Tryz.prog 90 #[.pointer (some ⟨B,0,none⟩)] (fun k => #[.agg (ptF S (I / 4) J k)]) (3 + 4 * G.toNat) (fun _ => False) (PtNeed B G S I J):=by
 obtain ⟨h1,h2,h3,h4,h5,h6,h7,h8,h9,h10,h11⟩:=(mayG_iff G S I J).1 hm
 obtain ⟨g,rfl⟩:∃ g:Nat,G = (g:Int):=⟨G.toNat,by omega⟩
 rw [Int.toNat_natCast]
 intro l F Fx W hJo hJxo hY h0 hN
 have HY:=Lib.hid hY
 have HJO:=Lib.hid hJo
 clear hY hJo hJxo
 have hc0:W.cell? ⟨B,0,none⟩ = some (.int .i64 (g:Int)):=hN.cell (i:=0) rfl
 have hc1:W.cell? ⟨B,1,none⟩ = some (.int .i64 S):=hN.cell (i:=1) rfl
 have hc2:W.cell? ⟨B,2,none⟩ = some (.int .i64 I):=hN.cell (i:=2) rfl
 have hc3:W.cell? ⟨B,3,none⟩ = some (.int .i64 J):=hN.cell (i:=3) rfl
 have t1:=i64_quo4 I h5
 refine callsIn_of_wp Tryz.func90 rfl trivial ?_ rfl
 simp only [Tryz.ntmps90,List.size_toArray,List.length_cons,List.length_nil,Nat.reduceAdd,Nat.reduceSub,Array.replicate_succ,Array.replicate_zero,List.push_toArray,List.append_toArray,List.nil_append,List.cons_append]
 have HJB:Hid (∀ k (A A':World),F k A → Below A.heap.size A A' → F k A'):=fun k A A' h hb => HJO.out k A _ h ⟨none,grown_below hb,fun r e => by cases e⟩
 have hal3:=zero_arr3
 have hA0:=At.new W 164 z15
 gi_wp2_with (first | (refine wpIn_storeAt rfl 164 (.tmp 4) (.tmp 20) rfl W.heap.size (h15 J) z15 rfl rfl hA0 info_parts3 rfl (all_h15 J) ?_))
 intro w1 hA1 ho1
 have hN1:PtNeed B g S I J 0 w1:=At.below hN (storedP ho1) hN.lt
 have hF1:=HJB.out _ _ _ h0 (storedP ho1)
 clear hc0 hc1 hc2 hc3 hA0 hN h0 ho1
 gi_wp2_with (first | (refine wpIn_loadAt rfl 164 (.tmp 4) rfl W.heap.size (h15 J) _ rfl hA1 Tryz.underlying164 rfl info_parts3 ?_))
 clear hA1
 gi_loopw [22] (fun u wr => ∃ k:Nat,k ≤ 3 ∧ u = .int .i64 (k:Int) ∧ F k wr ∧ PtNeed B g S I J 0 wr) (fun u _ => 3 - (intOf u).toNat)
 case atStart => exact ⟨0,by omega,rfl,hF1,hN1⟩
 case round =>
  clear hF1 hN1
  obtain ⟨k,hk,rfl,hF,hnd⟩:=hrel
  by_cases hlt:k < 3
  ·have HPK:Hid (k = 0 ∧ ptF S (I / 4) J k = pcells 1 0 0 1 0 ∨ k = 1 ∧ ptF S (I / 4) J k = pcells 2 0 1 1 0 ∨ k = 2 ∧ ptF S (I / 4) J k = pcells 3 0 2 J 0):=by
    have:k = 0 ∨ k = 1 ∨ k = 2:=by omega
    rcases this with rfl | rfl | rfl
    ·exact .inl ⟨rfl,rfl⟩
    ·exact .inr (.inl ⟨rfl,rfl⟩)
    ·exact .inr (.inr ⟨rfl,rfl⟩)
   have hY1:=fun A h1 h2 => HY.out k A (by omega) h1 h2
   obtain ⟨cs,hcs⟩:∃ cs,ptF S (I / 4) J k = cs:=⟨_,rfl⟩
   rw [hcs] at hY1
   have HY1:=Lib.hid hY1
   have hix:∀ W,(Instr.index 164 (.agg (h15 J)) (.int .i64 (k:Int))).run Tryz.prog W = .ok (.agg cs) W:=fun W => by
    rcases HPK.out with ⟨rfl,e⟩ | ⟨rfl,e⟩ | ⟨rfl,e⟩
    ·rw [← hcs,e];exact idx3_0 J W
    ·rw [← hcs,e];exact idx3_1 J W
    ·rw [← hcs,e];exact idx3_2 J W
   have hcsz:cs.size = 5:=by rcases HPK.out with ⟨rfl,e⟩ | ⟨rfl,e⟩ | ⟨rfl,e⟩ <;> (rw [← hcs,e];rfl)
   have hc1:cs.all (·.oneCell') = true:=by rcases HPK.out with ⟨rfl,e⟩ | ⟨rfl,e⟩ | ⟨rfl,e⟩ <;> (rw [← hcs,e];exact all_p _ _ _ _ _)
   clear hcs HPK hY1
   have hinf:(Tryz.prog.info? 117).map (·.size) = some cs.size:=by rw [hcsz];exact info_part
   have hA:=At.new wr 117 (pcells 0 0 0 0 0)
   have hal:=zero_part
   have hs0:(pcells 0 0 0 0 0).size = cs.size:=by rw [hcsz];rfl
   have l3:(k:Int) < 3:=by omega
   have HFN:Hid (F k wr ∧ PtNeed B g S I J 0 wr):=⟨hF,hnd⟩
   clear hF hnd hcsz
   gi_wp2_with (first | (refine wpIn_storeAt rfl 117 (.tmp 6) (.tmp 24) rfl wr.heap.size cs (pcells 0 0 0 0 0) rfl rfl hA hinf hs0 hc1 ?_))
   intro w2 hA2 ho2
   have hN2:PtNeed B g S I J 0 w2:=At.below HFN.out.2 (storedP ho2) (At.lt HFN.out.2)
   have hF2:=HJB.out _ _ _ HFN.out.1 (storedP ho2)
   obtain ⟨fn,tmps,assign,body,hy,hR⟩:=HY1.out w2 hF2 hN2
   clear HFN hA ho2 hix HY1 hc1 hs0
   gi_wp2_with (first | (refine wpIn_loadAt rfl 117 (.tmp 6) rfl wr.heap.size cs _ rfl hA2 Tryz.underlying117 rfl hinf ?_))
   refine hR.mono ?_
   rintro e W3 (⟨rfl,hJ3,hN3⟩ | ⟨rfl,hJx3⟩)
   ·gi_wp2
    go_roundw
    case rel => exact ⟨k + 1,by omega,int_eq (by omega),hJ3,hN3⟩
    case measure => simp [intOf];omega
   ·gi_wp2
    refine bodyPost_ret (results_none rfl _ _ _) rfl ?_
    exact ⟨⟨_,rfl⟩,.inr ⟨k,by omega,hJx3⟩⟩
  ·obtain rfl:k = 3:=by omega
   have hc0:wr.cell? ⟨B,0,none⟩ = some (.int .i64 (g:Int)):=hnd.cell (i:=0) rfl
   gi_wp2
   clear hc0
   gi_loopw [32] (fun u wr => ∃ γ:Nat,γ ≤ g ∧ u = .int .i64 (γ:Int) ∧ F (3 + 4 * γ) wr ∧ PtNeed B g S I J 0 wr) (fun u _ => g - (intOf u).toNat)
   case atStart => exact ⟨0,by omega,rfl,hF,hnd⟩
   case round =>
    clear hF hnd
    obtain ⟨γ,hγ,rfl,hF,hnd⟩:=hrel
    by_cases hlt2:γ < g
    ·have hc1:wr.cell? ⟨B,1,none⟩ = some (.int .i64 S):=hnd.cell (i:=1) rfl
     have hc3:wr.cell? ⟨B,3,none⟩ = some (.int .i64 J):=hnd.cell (i:=3) rfl
     have hgs:0 ≤ (γ:Int) * S ∧ (γ:Int) * S ≤ 2048:=by
      refine ⟨Int.mul_nonneg (by omega) (by omega),?_⟩
      have:=Int.mul_le_mul (show (γ:Int) ≤ 4 by omega) h4 (by omega) (by omega:(0:Int) ≤ 4)
      omega
     obtain ⟨hgs0,hgs1⟩:=hgs
     have l4:(γ:Int) < (g:Int):=by omega
     have hal4:=zero_arr4
     have HFN:Hid (F (3 + 4 * γ) wr ∧ PtNeed B g S I J 0 wr):=⟨hF,hnd⟩
     have hA0:=At.new wr 165 z20
     have HT4:Hid (0 ≤ I / 4 ∧ I / 4 ≤ 16):=by show _ ∧ _;omega
     have HPT:=Lib.hid (fun i hi => ptF_at S (I / 4) J γ (i:=i) hi)
     have HHT:Hid (3 + I / 4 ≤ S):=h10
     clear hF hnd t1 h10
     generalize I / 4 = t at *
     obtain ⟨ht0,ht1⟩:=HT4.out
     have ht2:=HHT.out
     have e1:IntKind.i64.wrap ((γ:Int) * S) = (γ:Int) * S:=IntWalk.i64_in _ (by omega)
     have e2:IntKind.i64.wrap (2 + J + (γ:Int) * S) = 2 + J + (γ:Int) * S:=IntWalk.i64_in _ (by omega)
     have e3:IntKind.i64.wrap (2 + J + (γ:Int) * S + 1) = 2 + J + (γ:Int) * S + 1:=IntWalk.i64_in _ (by omega)
     have e4:IntKind.i64.wrap (2 + J + (γ:Int) * S + 2) = 2 + J + (γ:Int) * S + 2:=IntWalk.i64_in _ (by omega)
     have e5:IntKind.i64.wrap (2 + J + (γ:Int) * S + 2 + t) = 2 + J + (γ:Int) * S + 2 + t:=IntWalk.i64_in _ (by omega)
     have e6:IntKind.i64.wrap (S - 2 - t) = S - 2 - t:=IntWalk.i64_in _ (by omega)
     have e7:IntKind.i64.wrap (2 + t) = 2 + t:=IntWalk.i64_in _ (by omega)
     gi_wp2_with (first | (refine wpIn_storeAt rfl 165 (.tmp 9) (.tmp 68) rfl wr.heap.size (h20 γ (2 + J + (γ:Int) * S) (2 + J + (γ:Int) * S + 1) (2 + J + (γ:Int) * S + 2) (2 + J + (γ:Int) * S + 2 + t) t (S - 2 - t) (2 + t)) z20 rfl rfl hA0 info_parts4 rfl (all_h20 _ _ _ _ _ _ _ _) ?_))
     intro w4 hA4 ho4
     have hN4:PtNeed B g S I J 0 w4:=At.below HFN.out.2 (storedP ho4) (At.lt HFN.out.2)
     have hF4:=HJB.out _ _ _ HFN.out.1 (storedP ho4)
     clear HFN hA0 ho4 hc1 hc3 e1 e2 e3 e4 e5 e6 e7
     obtain ⟨p1,hp1⟩:∃ p,2 + J + (γ:Int) * S = p:=⟨_,rfl⟩
     have HPT2:Hid (∀ i:Nat,i < 4 → ptF S t J (3 + 4 * γ + i) = if i = 0 then pcells 4 γ p1 1 0 else if i = 1 then pcells 5 γ (p1 + 1) 1 1 else if i = 2 then pcells 6 γ (p1 + 2) t 2 else pcells 7 γ (p1 + 2 + t) (S - 2 - t) (2 + t)):=fun i hi => by rw [HPT.out i hi,hp1]
     rw [hp1] at hA4 ⊢
     clear HPT hp1 hgs0 hgs1
     gi_wp2_with (first | (refine wpIn_loadAt rfl 165 (.tmp 9) rfl wr.heap.size (h20 γ p1 (p1 + 1) (p1 + 2) (p1 + 2 + t) t (S - 2 - t) (2 + t)) _ rfl hA4 Tryz.underlying165 rfl info_parts4 ?_))
     clear hA4 hal4
     gi_loopw [70] (fun u wr => ∃ i:Nat,i ≤ 4 ∧ u = .int .i64 (i:Int) ∧ F (3 + 4 * γ + i) wr ∧ PtNeed B g S I J 0 wr) (fun u _ => 4 - (intOf u).toNat)
     case atStart => exact ⟨0,by omega,rfl,hF4,hN4⟩
     case round =>
      clear hF4 hN4
      obtain ⟨i,hi,rfl,hF,hnd⟩:=hrel
      by_cases hlt3:i < 4
      ·have HPK:Hid (i = 0 ∧ ptF S t J (3 + 4 * γ + i) = pcells 4 γ p1 1 0 ∨ i = 1 ∧ ptF S t J (3 + 4 * γ + i) = pcells 5 γ (p1 + 1) 1 1 ∨ i = 2 ∧ ptF S t J (3 + 4 * γ + i) = pcells 6 γ (p1 + 2) t 2 ∨ i = 3 ∧ ptF S t J (3 + 4 * γ + i) = pcells 7 γ (p1 + 2 + t) (S - 2 - t) (2 + t)):=by
        have:i = 0 ∨ i = 1 ∨ i = 2 ∨ i = 3:=by omega
        rcases this with rfl | rfl | rfl | rfl
        ·exact .inl ⟨rfl,HPT2.out 0 (by omega)⟩
        ·exact .inr (.inl ⟨rfl,HPT2.out 1 (by omega)⟩)
        ·exact .inr (.inr (.inl ⟨rfl,HPT2.out 2 (by omega)⟩))
        ·exact .inr (.inr (.inr ⟨rfl,HPT2.out 3 (by omega)⟩))
       have hY1:=fun A h1 h2 => HY.out (3 + 4 * γ + i) A (by omega) h1 h2
       obtain ⟨cs,hcs⟩:∃ cs,ptF S t J (3 + 4 * γ + i) = cs:=⟨_,rfl⟩
       rw [hcs] at hY1
       have HY1:=Lib.hid hY1
       have hix:∀ W,(Instr.index 165 (.agg (h20 γ p1 (p1 + 1) (p1 + 2) (p1 + 2 + t) t (S - 2 - t) (2 + t))) (.int .i64 (i:Int))).run Tryz.prog W = .ok (.agg cs) W:=fun W => by
        rcases HPK.out with ⟨rfl,e⟩ | ⟨rfl,e⟩ | ⟨rfl,e⟩ | ⟨rfl,e⟩
        ·rw [← hcs,e];exact idx4_0 _ _ _ _ _ _ _ _ W
        ·rw [← hcs,e];exact idx4_1 _ _ _ _ _ _ _ _ W
        ·rw [← hcs,e];exact idx4_2 _ _ _ _ _ _ _ _ W
        ·rw [← hcs,e];exact idx4_3 _ _ _ _ _ _ _ _ W
       have hcsz:cs.size = 5:=by rcases HPK.out with ⟨rfl,e⟩ | ⟨rfl,e⟩ | ⟨rfl,e⟩ | ⟨rfl,e⟩ <;> (rw [← hcs,e];rfl)
       have hc1:cs.all (·.oneCell') = true:=by rcases HPK.out with ⟨rfl,e⟩ | ⟨rfl,e⟩ | ⟨rfl,e⟩ | ⟨rfl,e⟩ <;> (rw [← hcs,e];exact all_p _ _ _ _ _)
       clear hcs HPK hY1
       have hinf:(Tryz.prog.info? 117).map (·.size) = some cs.size:=by rw [hcsz];exact info_part
       have hA:=At.new wr 117 (pcells 0 0 0 0 0)
       have hal:=zero_part
       have hs0:(pcells 0 0 0 0 0).size = cs.size:=by rw [hcsz];rfl
       have l5:(i:Int) < 4:=by omega
       have HFN:Hid (F (3 + 4 * γ + i) wr ∧ PtNeed B g S I J 0 wr):=⟨hF,hnd⟩
       clear hF hnd hcsz
       gi_wp2_with (first | (refine wpIn_storeAt rfl 117 (.tmp 11) (.tmp 72) rfl wr.heap.size cs (pcells 0 0 0 0 0) rfl rfl hA hinf hs0 hc1 ?_))
       intro w2 hA2 ho2
       have hN2:PtNeed B g S I J 0 w2:=At.below HFN.out.2 (storedP ho2) (At.lt HFN.out.2)
       have hF2:=HJB.out _ _ _ HFN.out.1 (storedP ho2)
       obtain ⟨fn,tmps,assign,body,hy,hR⟩:=HY1.out w2 hF2 hN2
       clear HFN hA ho2 hix HY1 hc1 hs0
       gi_wp2_with (first | (refine wpIn_loadAt rfl 117 (.tmp 11) rfl wr.heap.size cs _ rfl hA2 Tryz.underlying117 rfl hinf ?_))
       refine hR.mono ?_
       rintro e W3 (⟨rfl,hJ3,hN3⟩ | ⟨rfl,hJx3⟩)
       ·gi_wp2
        go_roundw
        case rel => exact ⟨i + 1,by omega,int_eq (by omega),hJ3,hN3⟩
        case measure => simp [intOf];omega
       ·gi_wp2
        refine bodyPost_ret (results_none rfl _ _ _) rfl ?_
        exact ⟨⟨_,rfl⟩,.inr ⟨3 + 4 * γ + i,by omega,hJx3⟩⟩
      ·obtain rfl:i = 4:=by omega
       have l5:¬ ((4:Nat):Int) < 4:=by omega
       gi_wp2
       go_roundw
       case rel =>
        rw [show 3 + 4 * γ + 4 = 3 + 4 * (γ + 1) by omega] at hF
        exact ⟨_,_,_,_,.int .i64 ((γ:Int) + 1),⟨γ + 1,by omega,int_eq (by omega),hF⟩,rfl,rfl,rfl,rfl,rfl⟩
       case measure => simp [intOf];omega
    ·obtain rfl:γ = g:=by omega
     have l4:¬ (γ:Int) < (γ:Int):=by omega
     gi_wp2
     refine bodyPost_end (results_none rfl _ _ _) rfl ?_
     exact ⟨⟨_,rfl⟩,.inl (hF)⟩
end Go.Proofs.YtphamecphmbipaaGreatDoor

namespace Go.Proofs.YtphamecphmbipaaGreatDoor.Mv
open Go.RowKit Go.Proofs.YtphamecphmbipaaGreatDoor
set_option linter.unusedVariables false
def tame (o:Oper):Bool:=match o.op with | .store _ _ _ => true | _ => plainOp o
section
variable {F:Fence} {m:Nat} {P:Program} {ops:Array Oper} {md:Region.Mode} {σ:Type} {C:σ → World → Prop}
theorem tame_no_enter {o:Oper} (ho:tame o = true) (a:Act) (w:World) (f:FuncId) (args:Array Value) (w':World):(execOp a.eval o).run P w ≠ .ok (.enter f args) w':=by
 unfold tame at ho
 split at ho
 ·rename_i ty x y hop
  unfold execOp
  simp only [hop,Sem.run_bind]
  intro h
  cases hr:(Instr.storeAt ty (a.eval x) (a.eval y)).run P w with
  | ok u w1 => rw [hr] at h;simp [Result.andThen,Sem.run_pure] at h
  | halt e w1 => rw [hr] at h;simp [Result.andThen] at h
 ·exact plain_no_enter ho a w f args w'
theorem tame_no_call {o:Oper} (ho:tame o = true) (c):o.op ≠ .call c:=by
 intro h;unfold tame at ho;rw [h] at ho;unfold plainOp at ho;rw [h] at ho;cases ho
theorem tame_no_defer {o:Oper} (ho:tame o = true) (c):o.op ≠ .defer c:=by
 intro h;unfold tame at ho;rw [h] at ho;unfold plainOp at ho;rw [h] at ho;cases ho
theorem wpOpIn_of_lin (ht:ops.all tame = true) {i:Nat} {s:σ} {a:Act} {K:σ → Act → Prop} {K':Act → World → Prop} {Q':Exit → Act → World → Prop} {w:World} (hC:C s w) (h:∀ s a w',C s w' → K s a → K' a w') (hh:linOp P ops C i K s a):wpOpIn F m P ops Q' i K' a w:=by
 unfold linOp at hh
 unfold wpOpIn
 split
 ·rename_i ho;simp only [ho] at hh;exact h _ _ _ hC hh
 ·rename_i o ho
  simp only [ho] at hh
  have hta:tame o = true:=by
   rw [Array.all_eq_true_iff_forall_mem] at ht
   exact ht o (Array.mem_of_getElem? ho)
  have hab:∀ f,o.about P w a.eval = some f → F.fn f:=by
   intro f hf
   unfold Oper.about at hf
   split at hf
   ·rename_i c hc;exact absurd hc (tame_no_call hta c)
   ·cases hf
  rcases hh with ⟨hw,hy⟩ | ⟨hw,hk⟩
  ·simp only [hw,if_true]
   unfold Oper.wpIn
   refine ⟨hab,?_⟩
   rw [Oper.semAt_plain F _ _ (tame_no_defer hta)]
   have hne:=fun f args w' => tame_no_enter (P:=P) hta a w f args w'
   rcases hy with ⟨_,hk⟩ | ⟨_,v,hs,hk⟩
   ·have h3:=hk w hC
    generalize (execOp a.eval o).run P w = r at *
    cases r with
    | ok n w' =>
     cases n <;> simp only [movesUpon] at h3 <;> simp only [Oper.uponIn]
     ·obtain ⟨s',h4,h5⟩:=h3;exact h _ _ _ h4 h5
     ·obtain ⟨s',h4,h5⟩:=h3;exact h _ _ _ h4 h5
     ·exact absurd rfl (hne _ _ _)
    | halt x w' => simp only [movesUpon] at h3
   ·have h3:=hs w ⟨_,hC⟩
    generalize (execOp a.eval o).run P w = r at *
    cases r with
    | ok n w' =>
     cases n <;> simp only [stillUpon] at h3 <;> simp only [Oper.uponIn]
     ·obtain ⟨rfl,rfl⟩:=h3;exact h _ _ _ hC hk
     ·obtain ⟨rfl,rfl⟩:=h3;exact h _ _ _ hC hk
    | halt x w' => simp only [stillUpon] at h3
  ·rw [if_neg (by rw [hw];decide)]
   exact ⟨hab,h _ _ _ hC hk⟩
theorem wpAnyIn_of_lin (ht:ops.all tame = true) {Q:σ → Act → Prop} {Q':Exit → Act → World → Prop} (hQ:∀ s a w,C s w → Q s a → Q' .normal a w):∀ (fuel:Nat) (listed:Array Bool) (s:σ) (a:Act) (w:World),C s w →
  wpAnyL P md ops C Q fuel listed s a → wpAnyIn F m P md ops Q' fuel listed a w
 | 0,_,_,_,_,hw,h => ⟨h.1,hQ _ _ _ hw h.2⟩
 | fuel + 1,_,_,_,_,hw,h => ⟨fun h0 => hQ _ _ _ hw (h.1 h0),fun i hi => wpOpIn_of_lin ht hw (fun s' a' w' hw' => wpAnyIn_of_lin ht hQ fuel _ s' a' w' hw') (h.2 i hi)⟩
theorem wpIn_region_mc (C:σ → World → Prop) (s:σ) {id:Nat} {Q:Exit → Act → World → Prop} {a:Act} {w:World} {l:List Oper} (hm:P.follows .mixedOrders = true) (hB:Region.lexB .any l.toArray = true) (hch:chainC .any l.toArray = true) (ht:l.toArray.all tame = true) (hC:C s { w with drawn:=w.drawn + 1 })
  (h:Nonempty (InW fun w => ∃ s,C s w) → wpLin P l.toArray C (fun s a' => ∀ w',C s w' → Q .normal a' w') l s a):(Code.region id l.toArray true).wpIn F m P Q a w:=by
 simp only [Region.lexB,Bool.and_eq_true] at hB
 refine wpIn_region_any hm (wpAnyIn_of_lin ht (Q:=fun s a' => ∀ w',C s w' → Q .normal a' w') (fun _ _ w' hw' h => h w' hw') _ _ s _ _ hC ?_)
 have:=wpAnyL_lexC (C:=C) (md:=.any) calls_some hch hB.1 l 0 (Array.replicate l.toArray.size false) s a ⟨_,hC⟩ (fun j oj hj hl => by
   rcases Nat.lt_or_ge j l.toArray.size with h' | h'
   ·rw [List.size_toArray] at h';simp [h'] at hl
   ·rw [List.size_toArray] at h';simp [h'] at hl) (fun j hj => by omega) (by simp) (by simpa using hB.2) (h ⟨⟨_,s,hC⟩⟩)
 simpa using this
theorem lin_store1 {Q:σ → Act → Prop} {s:σ} {o:Oper} {rest:List Oper} {a:Act} (hw:Region.wanted o (yielded ops a.tmps) = true) (ty:TypeId) (x y:Operand) (ho:o.op = .store ty x y)
  (b off:Nat) (v:Value) (hx:a.eval x = .pointer (some ⟨b,off,none⟩)) (hy:a.eval y = v) (hi:(P.info? ty).map (·.size) = some 1) (h1:v.oneCell' = true) (s':σ)
  (hc:∀ w,C s w → (∃ u,w.cell? ⟨b,off,none⟩ = some u) ∧ w.frozen? ⟨b,off,none⟩ = false ∧ C s' (w.setCell ⟨b,off,none⟩ v))
  (hk:wpLin P ops C Q rest s' (a.put o.dst undef)):wpLin P ops C Q (o :: rest) s a :=
 lin_move hw (by unfold mv plainOp;rw [ho];rfl) fun w hC => by
  obtain ⟨⟨u,hu⟩,hf,hC'⟩:=hc w hC
  unfold execOp
  simp only [ho,hx,hy,Instr.storeAt,Instr.sureAddr,Sem.run_bind,Sem.run_pure,Result.andThen_ok,run_storeVar1 w b off ty u v hu hf hi h1]
  exact ⟨s',hC',hk⟩
end
end Go.Proofs.YtphamecphmbipaaGreatDoor.Mv

namespace Go.Proofs.YtphamecphmbipaaGreatDoor
open Go.RowKit
set_option linter.unusedVariables false
attribute [local go_sem] Oper.semAt_some
theorem ptF_form {g:Nat} {S t J:Int} (h1:16 ≤ S) (h2:S ≤ 512) (h3:0 ≤ t) (h4:3 + t ≤ S) (h5:40 ≤ J) (h6:J ≤ 256) (hg:g ≤ 4) (k:Nat) (hk:k < 3 + 4 * g) :
  ∃ K Gg Fr Sz Pl:Int,ptF S t J k = pcells K Gg Fr Sz Pl ∧ (0 ≤ Fr ∧ 0 ≤ Sz ∧ Fr + Sz ≤ 2 + J + g * S ∧ 0 ≤ Pl ∧ Pl ≤ 512 ∧ Fr + Sz ≤ 4000 ∧ 0 ≤ K ∧ K ≤ 7) ∧
   (k = 0 ∧ Fr + Sz = 1 ∧ K = 1 ∨ k = 1 ∧ Fr + Sz = 2 ∧ K = 2 ∨ k = 2 ∧ Fr + Sz = 2 + J ∧ K = 3 ∨ 3 ≤ k ∧ 2 + J ≤ Fr + Sz ∧ 4 ≤ K ∧ K ≤ 7 ∧ (k + 1 = 3 + 4 * g → Fr + Sz = 2 + J + g * S)):=by
 have hgs0:0 ≤ (g:Int) * S:=Int.mul_nonneg (by omega) (by omega)
 have hgs1:(g:Int) * S ≤ 4 * 512:=Int.mul_le_mul (by omega) h2 (by omega) (by omega)
 by_cases c0:k = 0
 ·subst c0;exact ⟨1,0,0,1,0,rfl,by omega,by omega⟩
 by_cases c1:k = 1
 ·subst c1;exact ⟨2,0,1,1,0,rfl,by omega,by omega⟩
 by_cases c2:k = 2
 ·subst c2;exact ⟨3,0,2,J,0,rfl,by omega,by omega⟩
 obtain ⟨γ,i,hi,rfl⟩:∃ γ i,i < 4 ∧ k = 3 + 4 * γ + i:=⟨(k - 3) / 4,(k - 3) % 4,by omega,by omega⟩
 have hγ:γ + 1 ≤ g:=by omega
 have hm0:0 ≤ (γ:Int) * S:=Int.mul_nonneg (by omega) (by omega)
 have hm1:((γ:Int) + 1) * S ≤ (g:Int) * S:=Int.mul_le_mul_of_nonneg_right (by omega) (by omega)
 rw [Int.add_mul,Int.one_mul] at hm1
 have hlast:γ + 1 = g → (γ:Int) * S + S = (g:Int) * S:=fun e => by rw [← e];rw [show ((γ + 1:Nat):Int) = (γ:Int) + 1 by omega,Int.add_mul,Int.one_mul]
 rw [ptF_at S t J γ hi]
 generalize (γ:Int) * S = a at *
 generalize (g:Int) * S = b at *
 have:i = 0 ∨ i = 1 ∨ i = 2 ∨ i = 3:=by omega
 rcases this with rfl | rfl | rfl | rfl
 ·exact ⟨4,γ,2 + J + a,1,0,rfl,by omega,by omega⟩
 ·exact ⟨5,γ,2 + J + a + 1,1,1,rfl,by omega,by omega⟩
 ·exact ⟨6,γ,2 + J + a + 2,t,2,rfl,by omega,by omega⟩
 ·refine ⟨7,γ,2 + J + a + 2 + t,S - 2 - t,2 + t,rfl,by omega,.inr (.inr (.inr ⟨by omega,by omega,by omega,by omega,fun e => ?_⟩))⟩
  have:=hlast (by omega)
  omega
theorem At.setCell {w:World} {g:Nat} {T:TypeId} {cs:Array Value} (h:At w g T cs) (i:Nat) (v:Value):At (w.setCell ⟨g,i,none⟩ v) g T (cs.setIfInBounds i v):=by
 obtain ⟨hlt,hk⟩:=Array.getElem?_eq_some_iff.1 h
 show (w.heap.modify g _)[g]? = _
 rw [Array.getElem?_eq_getElem (by rw [Array.size_modify];exact hlt),Array.getElem_modify_self,hk]
 rfl
structure WhS (w:World) (G S I J x K A B:Int) (W:World):Prop where
 g:At W w.heap.size 23 (gcells G S I J)
 x:At W (w.heap.size + 1) 3 #[.int .i64 x]
 k:At W (w.heap.size + 2) 5 #[.int .u8 K]
 a:At W (w.heap.size + 3) 3 #[.int .i64 A]
 b:At W (w.heap.size + 4) 3 #[.int .i64 B]
 bel:Below w.heap.size w W
section
variable {w:World} {G S I J x K A B:Int} {W W':World}
theorem WhS.below (h:WhS w G S I J x K A B W) (hb:Below W.heap.size W W'):WhS w G S I J x K A B W':=⟨h.g.below hb h.g.lt,h.x.below hb h.x.lt,h.k.below hb h.k.lt,h.a.below hb h.a.lt,h.b.below hb h.b.lt,h.bel.trans (hb.mono h.bel.size)⟩
theorem WhS.sz (h:WhS w G S I J x K A B W):w.heap.size + 5 ≤ W.heap.size:=h.b.lt
theorem WhS.setK (h:WhS w G S I J x K A B W) (v:Int):WhS w G S I J x v A B (W.setCell ⟨w.heap.size + 2,0,none⟩ (.int .u8 v)) :=
 have ho:=Only.setCell W ⟨w.heap.size + 2,0,none⟩ (.int .u8 v)
 ⟨h.g.only ho (by simp),h.x.only ho (by simp),h.k.setCell 0 _,h.a.only ho (by simp),h.b.only ho (by simp),h.bel.trans (ho.below (by simp))⟩
theorem WhS.setA (h:WhS w G S I J x K A B W) (v:Int):WhS w G S I J x K v B (W.setCell ⟨w.heap.size + 3,0,none⟩ (.int .i64 v)) :=
 have ho:=Only.setCell W ⟨w.heap.size + 3,0,none⟩ (.int .i64 v)
 ⟨h.g.only ho (by simp),h.x.only ho (by simp),h.k.only ho (by simp),h.a.setCell 0 _,h.b.only ho (by simp),h.bel.trans (ho.below (by simp))⟩
theorem WhS.setB (h:WhS w G S I J x K A B W) (v:Int):WhS w G S I J x K A v (W.setCell ⟨w.heap.size + 4,0,none⟩ (.int .i64 v)) :=
 have ho:=Only.setCell W ⟨w.heap.size + 4,0,none⟩ (.int .i64 v)
 ⟨h.g.only ho (by simp),h.x.only ho (by simp),h.k.only ho (by simp),h.a.only ho (by simp),h.b.setCell 0 _,h.bel.trans (ho.below (by simp))⟩
theorem WhS.loc {B0:Nat} (hB:w.heap.size + 5 ≤ B0):LocalP B0 (WhS w G S I J x K A B):=fun A' C hs hg =>
 ⟨LocalP.at _ _ (by omega) A' C hs.g hg,LocalP.at _ _ (by omega) A' C hs.x hg,LocalP.at _ _ (by omega) A' C hs.k hg,LocalP.at _ _ (by omega) A' C hs.a hg,LocalP.at _ _ (by omega) A' C hs.b hg,LocalP.below w (by omega) (Nat.le_refl _) A' C hs.bel hg⟩
end
theorem parts_any (G S I J:Int) (w:World):Calls Tryz.prog 44 #[gval G S I J] w fun e w' => e = .returned (.func (.func 90) #[] #[.pointer (some ⟨w.heap.size,0,none⟩)]) ∧ At w' w.heap.size 23 (gcells G S I J) ∧ Below w.heap.size w w':=by
 have hA:=Lib.hid (At.new w 23 (gcells G S I J))
 have hL:Hid (Below w.heap.size w (w.alloc (.cells (gcells G S I J) 23))):=(Below.refl _ _).alloc (Nat.le_refl _) _
 go_enter Tryz.func44,Tryz.ntmps44
 go_wp2_with fail
 go_ret
 exact ⟨rfl,hA.out,hL.out⟩
structure WhC (w:World) (G S I J x K A B:Int) (p:Nat) (cs:Array Value) (B0:Nat) (W0:World) (t:Mv.St) (W:World):Prop where
 s:WhS w G S I J x (if t.n ≥ 1 then K else 0) (if t.n ≥ 2 then A else 0) (if t.n ≥ 3 then B else 0) W
 p:At W p 117 cs
 keep:KeepsFrom B0 W0 W
section
variable {w:World} {G S I J x K A B:Int} {p:Nat} {cs:Array Value} {B0:Nat} {W0 W:World}
theorem At.unlike {W:World} {p q:Nat} {T U:TypeId} {cs ds:Array Value} (h:At W p T cs) (k:At W q U ds) (hT:T ≠ U):p ≠ q:=by
 intro e
 subst e
 have:=h.symm.trans k
 injection this with this
 injection this with _ h2 _
 exact hT h2
theorem WhC.s1 (h:WhC w G S I J x K A B p cs B0 W0 ⟨0,undef⟩ W):WhC w G S I J x K A B p cs B0 W0 ⟨1,undef⟩ (W.setCell ⟨w.heap.size + 2,0,none⟩ (.int .u8 K)) :=
 have ho:=Only.setCell W ⟨w.heap.size + 2,0,none⟩ (.int .u8 K)
 ⟨h.s.setK K,h.p.only ho (At.unlike h.p h.s.k (by decide)),h.keep.trans (ho.keeps (h.s.k.cell (i:=0) rfl))⟩
theorem WhC.s2 (h:WhC w G S I J x K A B p cs B0 W0 ⟨1,undef⟩ W):WhC w G S I J x K A B p cs B0 W0 ⟨2,undef⟩ (W.setCell ⟨w.heap.size + 3,0,none⟩ (.int .i64 A)) :=
 have ho:=Only.setCell W ⟨w.heap.size + 3,0,none⟩ (.int .i64 A)
 ⟨h.s.setA A,h.p.only ho (At.unlike h.p h.s.a (by decide)),h.keep.trans (ho.keeps (h.s.a.cell (i:=0) rfl))⟩
theorem WhC.s3 (h:WhC w G S I J x K A B p cs B0 W0 ⟨2,undef⟩ W):WhC w G S I J x K A B p cs B0 W0 ⟨3,undef⟩ (W.setCell ⟨w.heap.size + 4,0,none⟩ (.int .i64 B)) :=
 have ho:=Only.setCell W ⟨w.heap.size + 4,0,none⟩ (.int .i64 B)
 ⟨h.s.setB B,h.p.only ho (At.unlike h.p h.s.b (by decide)),h.keep.trans (ho.keeps (h.s.b.cell (i:=0) rfl))⟩
end
theorem info_i64:(Tryz.prog.info? 3).map (·.size) = some 1:=by kernel_rfl
end Go.Proofs.YtphamecphmbipaaGreatDoor

namespace Go.Proofs.YtphamecphmbipaaGreatDoor
open Go.RowKit
set_option linter.unusedVariables false
def tr0 (s:Int):Tr:=⟨s,0,fun _ => 0,fun _ _ => 0,0,fun _ => 0⟩
section
variable {w:World} {la:Option Addr} {N:Nat} {L:Nat → Nat → Int} {n m:Nat} {s:Int} {cb:Nat → Int} {cd:Nat → Nat → Int} {rv:Nat → Int} {ca:Option Addr} {cc:Nat} {ra:Option Addr} {rc:Nat} {W W':World}
end
theorem AtGrown {W W1:World} {g:Nat} {T:TypeId} {cs:Array Value} {row:Option Nat} (h:At W g T cs) (hg:W.grownBy W1 row) (hne:row ≠ some g):At W1 g T cs:=(hg.block _ h.lt (fun e => hne e.symm)).trans h
theorem info_int3:(Tryz.prog.info? 3).map (fun i => (i.zero,i.size,i.bytes)) = some (some (.int .i64 0),1,8):=by kernel_rfl
theorem info_intP:∃ i,Tryz.prog.info? 3 = some i ∧ i.zero = some (.int .i64 0) ∧ i.size = 1 ∧ i.bytes = 8:=by
 obtain ⟨i,hi,hz⟩:=Option.map_eq_some_iff.1 info_int3
 simp only [Prod.mk.injEq] at hz
 exact ⟨i,hi,hz.1,hz.2.1,hz.2.2⟩
structure POk (t:Tr) (s:Int) (K:Nat):Prop where
 s:t.s = s
 cb:∀ i,0 ≤ t.cb i ∧ t.cb i < 4294967296
 cd:∀ i,Byt (t.cd i)
 rv:∀ i,0 ≤ t.rv i ∧ t.rv i < 4294967296
 n:t.n ≤ K
 m:t.m ≤ 60 * K
 cb0:∀ i,t.n ≤ i → t.cb i = 0
 rv0:∀ i,t.m ≤ i → t.rv i = 0
theorem POk.ok {t:Tr} {s:Int} {n:Nat} (h:POk t s n) (hs:0 ≤ s ∧ s < 4294967296) (hn:n ≤ 255):t.Ok :=
 ⟨by rw [h.s];exact hs,fun i => by have:=h.cb i;omega,h.cd,fun i => by have:=h.rv i;omega,by have:=h.n;omega,by have:=h.m;omega,h.cb0,h.rv0⟩
theorem POk.zero (s:Int):POk (tr0 s) s 0:=⟨rfl,fun i => ⟨Int.le_refl 0,(by decide:(0:Int) < 4294967296)⟩,fun i => zero_bytJ,fun i => ⟨Int.le_refl 0,(by decide:(0:Int) < 4294967296)⟩,Nat.le_refl _,Nat.le_refl _,fun i _ => rfl,fun i _ => rfl⟩
theorem RRow.take {w:World} {a:Option Addr} {m n:Nat} {f:Nat → List Value} (h:RRow w a m n f) (k:Nat) (hk:k ≤ n):RRow w a m k f:=by
 rcases h with h | ⟨b,off,rfl,h⟩
 ·exact .inl (by omega)
 ·exact .inr ⟨b,off,rfl,fun i hi => h i (by omega)⟩
section
variable {t:Tr} {L:Nat → Nat → Int} {N:Nat}
end
section
variable {L:Nat → Nat → Int} {N:Nat}
end
def rowB (f:Int) (mg:Bool):Nat → Int:=if mg then over (fun _ => f) 0 4 (byteOf 1280199249) else fun _ => f
theorem rowB_byt {f:Int} (hf:0 ≤ f ∧ f < 256) (mg:Bool):Byt (rowB f mg):=by
 unfold rowB;split
 ·exact byt_over (fun _ => hf) (byt_byteOf _) _ _
 ·exact fun _ => hf
abbrev rwcB (b f:Int) (mg:Bool):Array Value:=#[.int .i64 b,.int .u8 f,.bool mg]
structure B15x (w:World) (b f:Int) (mg:Bool) (z:Nat → Int) (W:World):Prop where
 x:At W w.heap.size 40 (rwcB b f mg)
 r:Blk W (w.heap.size + 1) 32 256 (fun _ => 0)
 b:Blk W (w.heap.size + 2) 32 256 z
 bel:Below w.heap.size w W
theorem B15x.step {w:World} {b f:Int} {mg:Bool} {z z':Nat → Int} {W W':World} (h:B15x w b f mg z W) (hB:Blk W' (w.heap.size + 2) 32 256 z') (ho:Only (w.heap.size + 2) W W'):B15x w b f mg z' W' :=
 ⟨h.x.only ho (by omega),h.r.only ho (by omega),hB,h.bel.trans (ho.below (by omega))⟩
theorem B15x.congr {w:World} {b f:Int} {mg:Bool} {z z':Nat → Int} {W:World} (h:B15x w b f mg z W) (he:∀ i,i < 256 → z i = z' i):B15x w b f mg z' W:=⟨h.x,h.r,h.b.congr he,h.bel⟩
set_option maxRecDepth 100000 in
set_option maxHeartbeats 4000000 in
theorem block15b_any (b f:Int) (hf:0 ≤ f ∧ f < 256) (mg:Bool) (w:World):Calls Tryz.prog 12 #[.agg (rwcB b f mg)] w fun e w' => e = .returned (bval (rowB f mg)) ∧ Below w.heap.size w w':=by
 have hal:=zero_block
 have st0:Hid (B15x w b f mg (fun i => if i < 0 then f else 0) (((w.alloc (.cells (rwcB b f mg) 40)).alloc (.cells (Ks .u8 256 (fun _ => 0)).toArray 32)).alloc (.cells (Ks .u8 256 (fun _ => 0)).toArray 32))):=by
  refine ⟨((At.new w _ _).alloc _).alloc _,?_,?_,(((Below.refl _ _).alloc (Nat.le_refl _) _).alloc (by simp) _).alloc (by simp;omega) _⟩
  ·have:=(Blk.new (w.alloc (.cells (rwcB b f mg) 40)) 32 256 (fun _ => 0)).alloc (.cells (Ks .u8 256 (fun _ => 0)).toArray 32)
   simp only [World.size_alloc] at this;exact this
  ·have:=Blk.new ((w.alloc (.cells (rwcB b f mg) 40)).alloc (.cells (Ks .u8 256 (fun _ => 0)).toArray 32)) 32 256 (fun _ => 0)
   simp only [World.size_alloc] at this
   exact this.congr fun i _ => by rw [if_neg (by omega)]
 go_enter Tryz.func12,Tryz.ntmps12
 go_wp2_with fail
 go_loopw [4] (fun u wr => ∃ k:Nat,k ≤ 256 ∧ u = .int .i64 (k:Int) ∧ B15x w b f mg (fun i => if i < k then f else 0) wr) (fun u _ => 256 - (intOf u).toNat)
 case atStart => exact ⟨0,by omega,rfl,st0.out⟩
 case round =>
  clear st0
  obtain ⟨k,hk,rfl,st⟩:=hrel
  by_cases hlt:k < 256
  ·have hB:=st.b
   have l1:(k:Int) < 256:=by omega
   have c1:wr.cell? ⟨w.heap.size,1,none⟩ = some (.int .u8 f):=st.x.cell (i:=1) rfl
   go_wp2_with (first | (refine wp_storeByte rfl (.tmp 12) (.tmp 11) rfl (w.heap.size + 2) k f rfl rfl hB hlt ?_))
   intro w7 hb7 ho7
   have st7:B15x w b f mg (fun i => if i < k + 1 then f else 0) w7:=st.step (hb7.congr fun i _ => by
    unfold over
    by_cases e:k ≤ i ∧ i < k + 1
    ·rw [if_pos e,if_pos (by omega)]
    ·rw [if_neg e]
     show (if i < k then f else 0) = _
     by_cases e2:i < k
     ·rw [if_pos e2,if_pos (by omega)]
     ·rw [if_neg e2,if_neg (by omega)]) ho7
   clear st hB hb7 ho7
   go_wp2_with fail
   go_roundw
   case rel => first | exact ⟨k + 1,by omega,by go_num,st7⟩ | exact ⟨k + 1,by omega,rfl,st7⟩
   case measure => simp [intOf];omega
  ·obtain rfl:k = 256:=by omega
   have st2:B15x w b f mg (fun _ => f) wr:=st.congr fun i hi => by rw [if_pos hi]
   have c2:wr.cell? ⟨w.heap.size,2,none⟩ = some (.bool mg):=st2.x.cell (i:=2) rfl
   clear st
   cases mg with
   | false =>
    have HST:=Lib.hid st2
    have hB:=st2.b
    have hR:=st2.r
    clear st2
    go_wp2_with (first | (refine wp_loadBlkG rfl (.tmp 3) rfl (w.heap.size + 2) (fun _ => f) rfl hB ?_) | (refine wp_storeBlk rfl (.tmp 2) (.tmp 19) rfl (w.heap.size + 1) (fun _ => f) _ rfl rfl hR ?_))
    intro w3 hR3 ho3
    have HLZ:=Lib.hid (HST.out.bel.trans (ho3.below (by omega)))
    clear HST hB hR ho3
    go_wp2_with fail
    exact bodyPost_ret (results_blk rfl _ _ (w.heap.size + 1) _ rfl hR3) rfl ⟨rfl,HLZ.out⟩
   | true =>
    have hB:=st2.b
    go_wp2_with (first | (refine wp_storeByte rfl (.tmp 15) (.const (.int .u8 81)) rfl (w.heap.size + 2) 0 81 rfl rfl hB (by decide) ?_))
    intro w4 hb4 ho4
    have st4:=st2.step hb4 ho4
    have hB4:=st4.b
    clear st2 hB hb4 ho4
    go_wp2_with (first | (refine wp_storeByte rfl (.tmp 16) (.const (.int .u8 74)) rfl (w.heap.size + 2) 1 74 rfl rfl hB4 (by decide) ?_))
    intro w5 hb5 ho5
    have st5:=st4.step hb5 ho5
    have hB5:=st5.b
    clear st4 hB4 hb5 ho5
    go_wp2_with (first | (refine wp_storeByte rfl (.tmp 17) (.const (.int .u8 78)) rfl (w.heap.size + 2) 2 78 rfl rfl hB5 (by decide) ?_))
    intro w6 hb6 ho6
    have st6:=st5.step hb6 ho6
    have hB6:=st6.b
    clear st5 hB5 hb6 ho6
    go_wp2_with (first | (refine wp_storeByte rfl (.tmp 18) (.const (.int .u8 76)) rfl (w.heap.size + 2) 3 76 rfl rfl hB6 (by decide) ?_))
    intro w7 hb7 ho7
    have st7:=(st6.step hb7 ho7).congr (z':=rowB f true) fun i _ => by
     unfold rowB over
     rw [if_pos rfl]
     by_cases e3:i = 3
     ·subst e3;rfl
     by_cases e2:i = 2
     ·subst e2;rfl
     by_cases e1:i = 1
     ·subst e1;rfl
     by_cases e0:i = 0
     ·subst e0;rfl
     rw [if_neg (by omega),if_neg (by omega),if_neg (by omega),if_neg (by omega),if_neg (by omega)]
    have HST:=Lib.hid st7
    have hB7:=st7.b
    have hR:=st7.r
    clear st6 hB6 hb7 ho7 st7
    go_wp2_with (first | (refine wp_loadBlkG rfl (.tmp 3) rfl (w.heap.size + 2) (rowB f true) rfl hB7 ?_) | (refine wp_storeBlk rfl (.tmp 2) (.tmp 19) rfl (w.heap.size + 1) (rowB f true) _ rfl rfl hR ?_))
    intro w3 hR3 ho3
    have HLZ:=Lib.hid (HST.out.bel.trans (ho3.below (by omega)))
    clear HST hB7 hR ho3
    go_wp2_with fail
    exact bodyPost_ret (results_blk rfl _ _ (w.heap.size + 1) _ rfl hR3) rfl ⟨rfl,HLZ.out⟩
end Go.Proofs.YtphamecphmbipaaGreatDoor
