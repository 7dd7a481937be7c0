/- Texts of this claim, merged by a program (a claim may have 60 files): Parts, Range4, What, Range3, Pth, Pth1, Pk9, Pk10, Pk11, Pk12, Sc0, CopyB, Outside, Sc1, Sc2, Pk13, Pk14. -/
import Derived.Test.YtnbmmhoofilmfaaGreatDoorK07
import Derived.Test.YtnbmmhoofilmfaaGreatDoorK02
import Derived.Shelf.Abstract
import Derived.TacticsInMore
import Derived.LoopNIn
import Derived.LoopIn
import Derived.Test.YtnbmmhoofilmfaaGreatDoorK10
import Derived.Test.YtnbmmhoofilmfaaGreatDoorK08
import Derived.Deep.QuietTactic
import Derived.Test.YtnbmmhoofilmfaaGreatDoorK14
import Derived.Test.YtnbmmhoofilmfaaGreatDoorK09
import Derived.Laws.CopyRow
import Derived.Deep.RegionLaw
import Derived.Test.YtnbmmhoofilmfaaGreatDoorK05
import Derived.Test.YtnbmmhoofilmfaaGreatDoorK11
namespace Go.Proofs.YtnbmmhoofilmfaaGreatDoor
open Go.RowKit Go.Shelf
set_option linter.unusedVariables false
attribute [local go_sem] Oper.semAt_some
abbrev pcells (kind group from' size place:Int):Array Value:=#[.int .u8 kind,.int .i64 group,.int .i64 from',.int .i64 size,.int .i64 place]
def ptF (S t J:Int) (k:Nat):Array Value :=
 if k = 0 then pcells 1 0 0 1 0 else if k = 1 then pcells 2 0 1 1 0 else if k = 2 then pcells 3 0 2 J 0 else
 if (k - 3) % 4 = 0 then pcells 4 ((k - 3) / 4:Nat) (2 + J + ((k - 3) / 4:Nat) * S) 1 0 else
 if (k - 3) % 4 = 1 then pcells 5 ((k - 3) / 4:Nat) (2 + J + ((k - 3) / 4:Nat) * S + 1) 1 1 else
 if (k - 3) % 4 = 2 then pcells 6 ((k - 3) / 4:Nat) (2 + J + ((k - 3) / 4:Nat) * S + 2) t 2 else
 pcells 7 ((k - 3) / 4:Nat) (2 + J + ((k - 3) / 4:Nat) * S + 2 + t) (S - 2 - t) (2 + t)
theorem ptF_at (S t J:Int) (γ:Nat) {i:Nat} (hi:i < 4):ptF S t J (3 + 4 * γ + i) = if i = 0 then pcells 4 γ (2 + J + (γ:Int) * S) 1 0 else if i = 1 then pcells 5 γ (2 + J + (γ:Int) * S + 1) 1 1 else if i = 2 then pcells 6 γ (2 + J + (γ:Int) * S + 2) t 2 else pcells 7 γ (2 + J + (γ:Int) * S + 2 + t) (S - 2 - t) (2 + t):=by
 have e1:(3 + 4 * γ + i - 3) % 4 = i:=by omega
 have e2:(3 + 4 * γ + i - 3) / 4 = γ:=by omega
 unfold ptF
 rw [if_neg (by omega),if_neg (by omega),if_neg (by omega),e1,e2]
def PtNeed (B:Nat) (G S I J:Int):Nat → World → Prop:=fun _ W => At W B 23 (gcells G S I J)
theorem zero_part (W:World):(zeroValue 126).run Tryz.prog W = .ok (.agg (pcells 0 0 0 0 0)) W:=by kernel_rfl
theorem idx3_0 (J:Int) (W:World):(Instr.index 189 (.agg #[.int .u8 1,.int .i64 0,.int .i64 0,.int .i64 1,.int .i64 0,.int .u8 2,.int .i64 0,.int .i64 1,.int .i64 1,.int .i64 0,.int .u8 3,.int .i64 0,.int .i64 2,.int .i64 J,.int .i64 0]) (.int .i64 0)).run Tryz.prog W = .ok (.agg (pcells 1 0 0 1 0)) W:=by kernel_rfl
theorem idx3_1 (J:Int) (W:World):(Instr.index 189 (.agg #[.int .u8 1,.int .i64 0,.int .i64 0,.int .i64 1,.int .i64 0,.int .u8 2,.int .i64 0,.int .i64 1,.int .i64 1,.int .i64 0,.int .u8 3,.int .i64 0,.int .i64 2,.int .i64 J,.int .i64 0]) (.int .i64 1)).run Tryz.prog W = .ok (.agg (pcells 2 0 1 1 0)) W:=by kernel_rfl
theorem idx3_2 (J:Int) (W:World):(Instr.index 189 (.agg #[.int .u8 1,.int .i64 0,.int .i64 0,.int .i64 1,.int .i64 0,.int .u8 2,.int .i64 0,.int .i64 1,.int .i64 1,.int .i64 0,.int .u8 3,.int .i64 0,.int .i64 2,.int .i64 J,.int .i64 0]) (.int .i64 2)).run Tryz.prog W = .ok (.agg (pcells 3 0 2 J 0)) W:=by kernel_rfl
theorem idx4_0 (g a b c d t s p:Int) (W:World):(Instr.index 190 (.agg #[.int .u8 4,.int .i64 g,.int .i64 a,.int .i64 1,.int .i64 0,.int .u8 5,.int .i64 g,.int .i64 b,.int .i64 1,.int .i64 1,.int .u8 6,.int .i64 g,.int .i64 c,.int .i64 t,.int .i64 2,.int .u8 7,.int .i64 g,.int .i64 d,.int .i64 s,.int .i64 p]) (.int .i64 0)).run Tryz.prog W = .ok (.agg (pcells 4 g a 1 0)) W:=by kernel_rfl
theorem idx4_1 (g a b c d t s p:Int) (W:World):(Instr.index 190 (.agg #[.int .u8 4,.int .i64 g,.int .i64 a,.int .i64 1,.int .i64 0,.int .u8 5,.int .i64 g,.int .i64 b,.int .i64 1,.int .i64 1,.int .u8 6,.int .i64 g,.int .i64 c,.int .i64 t,.int .i64 2,.int .u8 7,.int .i64 g,.int .i64 d,.int .i64 s,.int .i64 p]) (.int .i64 1)).run Tryz.prog W = .ok (.agg (pcells 5 g b 1 1)) W:=by kernel_rfl
theorem idx4_2 (g a b c d t s p:Int) (W:World):(Instr.index 190 (.agg #[.int .u8 4,.int .i64 g,.int .i64 a,.int .i64 1,.int .i64 0,.int .u8 5,.int .i64 g,.int .i64 b,.int .i64 1,.int .i64 1,.int .u8 6,.int .i64 g,.int .i64 c,.int .i64 t,.int .i64 2,.int .u8 7,.int .i64 g,.int .i64 d,.int .i64 s,.int .i64 p]) (.int .i64 2)).run Tryz.prog W = .ok (.agg (pcells 6 g c t 2)) W:=by kernel_rfl
theorem idx4_3 (g a b c d t s p:Int) (W:World):(Instr.index 190 (.agg #[.int .u8 4,.int .i64 g,.int .i64 a,.int .i64 1,.int .i64 0,.int .u8 5,.int .i64 g,.int .i64 b,.int .i64 1,.int .i64 1,.int .u8 6,.int .i64 g,.int .i64 c,.int .i64 t,.int .i64 2,.int .u8 7,.int .i64 g,.int .i64 d,.int .i64 s,.int .i64 p]) (.int .i64 3)).run Tryz.prog W = .ok (.agg (pcells 7 g d s p)) W:=by kernel_rfl
theorem info_part:(Tryz.prog.info? 126).map (·.size) = some 5:=by kernel_rfl
theorem info_parts3:(Tryz.prog.info? 189).map (·.size) = some 15:=by kernel_rfl
theorem info_parts4:(Tryz.prog.info? 190).map (·.size) = some 20:=by kernel_rfl
abbrev h15 (J:Int):Array Value:=#[.int .u8 1,.int .i64 0,.int .i64 0,.int .i64 1,.int .i64 0,.int .u8 2,.int .i64 0,.int .i64 1,.int .i64 1,.int .i64 0,.int .u8 3,.int .i64 0,.int .i64 2,.int .i64 J,.int .i64 0]
theorem all_h15 (J:Int):(h15 J).all (·.oneCell') = true:=by kernel_rfl
theorem all_p (a b c d e:Int):(pcells a b c d e).all (·.oneCell') = true:=by kernel_rfl
abbrev z15:Array Value:=#[.int .u8 0,.int .i64 0,.int .i64 0,.int .i64 0,.int .i64 0,.int .u8 0,.int .i64 0,.int .i64 0,.int .i64 0,.int .i64 0,.int .u8 0,.int .i64 0,.int .i64 0,.int .i64 0,.int .i64 0]
abbrev h20 (γ a b c d t s p:Int):Array Value:=#[.int .u8 4,.int .i64 γ,.int .i64 a,.int .i64 1,.int .i64 0,.int .u8 5,.int .i64 γ,.int .i64 b,.int .i64 1,.int .i64 1,.int .u8 6,.int .i64 γ,.int .i64 c,.int .i64 t,.int .i64 2,.int .u8 7,.int .i64 γ,.int .i64 d,.int .i64 s,.int .i64 p]
theorem all_h20 (γ a b c d t s p:Int):(h20 γ a b c d t s p).all (·.oneCell') = true:=by kernel_rfl
abbrev z20:Array Value:=#[.int .u8 0,.int .i64 0,.int .i64 0,.int .i64 0,.int .i64 0,.int .u8 0,.int .i64 0,.int .i64 0,.int .i64 0,.int .i64 0,.int .u8 0,.int .i64 0,.int .i64 0,.int .i64 0,.int .i64 0,.int .u8 0,.int .i64 0,.int .i64 0,.int .i64 0,.int .i64 0]
theorem zero_arr4 (W:World):(zeroValue 190).run Tryz.prog W = .ok (.agg z20) W:=by kernel_rfl
theorem zero_arr3 (W:World):(zeroValue 189).run Tryz.prog W = .ok (.agg z15) W:=by kernel_rfl
theorem storedP {w w':World} {o:Obj} (ho:Only w.heap.size (w.alloc o) w'):Below w.heap.size w w':=((Below.refl _ _).alloc (Nat.le_refl _) o).trans (ho.below (Nat.le_refl _))
set_option maxRecDepth 100000 in
set_option maxHeartbeats 2000000 in
theorem parts_iter (n:Nat) (hn:1 ≤ n) (B:Nat) (G S I J:Int) (hm:mayG G S I J = true) :
  IterIx Fence.wide n Tryz.prog 109 #[.pointer (some ⟨B,0,none⟩)] (fun k => #[.agg (ptF S (I / 4) J k)]) (3 + 4 * G.toNat) (fun _ => False) (PtNeed B G S I J):=by
 obtain ⟨h1,h2,h3,h4,h5,h6,h7,h8,h9,h10,h11⟩:=(mayG_iff G S I J).1 hm
 obtain ⟨g,rfl⟩:∃ g:Nat,G = (g:Int):=⟨G.toNat,by omega⟩
 rw [Int.toNat_natCast]
 intro l F Fx W hJo hJxo hY h0 hN
 have HY:=Lib.hid hY
 have HJO:=Lib.hid hJo
 clear hY hJo hJxo
 have hc0:W.cell? ⟨B,0,none⟩ = some (.int .i64 (g:Int)):=hN.cell (i:=0) rfl
 have hc1:W.cell? ⟨B,1,none⟩ = some (.int .i64 S):=hN.cell (i:=1) rfl
 have hc2:W.cell? ⟨B,2,none⟩ = some (.int .i64 I):=hN.cell (i:=2) rfl
 have hc3:W.cell? ⟨B,3,none⟩ = some (.int .i64 J):=hN.cell (i:=3) rfl
 have t1:=i64_quo4 I h5
 refine callsIn_of_wp Tryz.func109 rfl trivial ?_ rfl
 simp only [Tryz.ntmps109,List.size_toArray,List.length_cons,List.length_nil,Nat.reduceAdd,Nat.reduceSub,Array.replicate_succ,Array.replicate_zero,List.push_toArray,List.append_toArray,List.nil_append,List.cons_append]
 have HJB:Hid (∀ k (A A':World),F k A → Below A.heap.size A A' → F k A'):=fun k A A' h hb => HJO.out k A _ h ⟨none,grown_below hb,fun r e => by cases e⟩
 have hal3:=zero_arr3
 have hA0:=At.new W 189 z15
 gi_wp2_with (first | (refine wpIn_storeAt rfl 189 (.tmp 4) (.tmp 20) rfl W.heap.size (h15 J) z15 rfl rfl hA0 info_parts3 rfl (all_h15 J) ?_))
 intro w1 hA1 ho1
 have hN1:PtNeed B g S I J 0 w1:=At.below hN (storedP ho1) hN.lt
 have hF1:=HJB.out _ _ _ h0 (storedP ho1)
 clear hc0 hc1 hc2 hc3 hA0 hN h0 ho1
 gi_wp2_with (first | (refine wpIn_loadAt rfl 189 (.tmp 4) rfl W.heap.size (h15 J) _ rfl hA1 Tryz.underlying189 rfl info_parts3 ?_))
 clear hA1
 gi_loopw [22] (fun u wr => ∃ k:Nat,k ≤ 3 ∧ u = .int .i64 (k:Int) ∧ F k wr ∧ PtNeed B g S I J 0 wr) (fun u _ => 3 - (intOf u).toNat)
 case atStart => exact ⟨0,by omega,rfl,hF1,hN1⟩
 case round =>
  clear hF1 hN1
  obtain ⟨k,hk,rfl,hF,hnd⟩:=hrel
  by_cases hlt:k < 3
  ·have HPK:Hid (k = 0 ∧ ptF S (I / 4) J k = pcells 1 0 0 1 0 ∨ k = 1 ∧ ptF S (I / 4) J k = pcells 2 0 1 1 0 ∨ k = 2 ∧ ptF S (I / 4) J k = pcells 3 0 2 J 0):=by
    have:k = 0 ∨ k = 1 ∨ k = 2:=by omega
    rcases this with rfl | rfl | rfl
    ·exact .inl ⟨rfl,rfl⟩
    ·exact .inr (.inl ⟨rfl,rfl⟩)
    ·exact .inr (.inr ⟨rfl,rfl⟩)
   have hY1:=fun A h1 h2 => HY.out k A (by omega) h1 h2
   obtain ⟨cs,hcs⟩:∃ cs,ptF S (I / 4) J k = cs:=⟨_,rfl⟩
   rw [hcs] at hY1
   have HY1:=Lib.hid hY1
   have hix:∀ W,(Instr.index 189 (.agg (h15 J)) (.int .i64 (k:Int))).run Tryz.prog W = .ok (.agg cs) W:=fun W => by
    rcases HPK.out with ⟨rfl,e⟩ | ⟨rfl,e⟩ | ⟨rfl,e⟩
    ·rw [← hcs,e];exact idx3_0 J W
    ·rw [← hcs,e];exact idx3_1 J W
    ·rw [← hcs,e];exact idx3_2 J W
   have hcsz:cs.size = 5:=by rcases HPK.out with ⟨rfl,e⟩ | ⟨rfl,e⟩ | ⟨rfl,e⟩ <;> (rw [← hcs,e];rfl)
   have hc1:cs.all (·.oneCell') = true:=by rcases HPK.out with ⟨rfl,e⟩ | ⟨rfl,e⟩ | ⟨rfl,e⟩ <;> (rw [← hcs,e];exact all_p _ _ _ _ _)
   clear hcs HPK hY1
   have hinf:(Tryz.prog.info? 126).map (·.size) = some cs.size:=by rw [hcsz];exact info_part
   have hA:=At.new wr 126 (pcells 0 0 0 0 0)
   have hal:=zero_part
   have hs0:(pcells 0 0 0 0 0).size = cs.size:=by rw [hcsz];rfl
   have l3:(k:Int) < 3:=by omega
   have HFN:Hid (F k wr ∧ PtNeed B g S I J 0 wr):=⟨hF,hnd⟩
   clear hF hnd hcsz
   gi_wp2_with (first | (refine wpIn_storeAt rfl 126 (.tmp 6) (.tmp 24) rfl wr.heap.size cs (pcells 0 0 0 0 0) rfl rfl hA hinf hs0 hc1 ?_))
   intro w2 hA2 ho2
   have hN2:PtNeed B g S I J 0 w2:=At.below HFN.out.2 (storedP ho2) (At.lt HFN.out.2)
   have hF2:=HJB.out _ _ _ HFN.out.1 (storedP ho2)
   obtain ⟨fn,tmps,assign,body,hy,hR⟩:=HY1.out w2 hF2 hN2
   clear HFN hA ho2 hix HY1 hc1 hs0
   gi_wp2_with (first | (refine wpIn_loadAt rfl 126 (.tmp 6) rfl wr.heap.size cs _ rfl hA2 Tryz.underlying126 rfl hinf ?_))
   refine hR.mono ?_
   rintro e W3 (⟨rfl,hJ3,hN3⟩ | ⟨rfl,hJx3⟩)
   ·gi_wp2
    go_roundw
    case rel => exact ⟨k + 1,by omega,int_eq (by omega),hJ3,hN3⟩
    case measure => simp [intOf];omega
   ·gi_wp2
    refine bodyPost_ret (results_none rfl _ _ _) rfl ?_
    exact ⟨⟨_,rfl⟩,.inr ⟨k,by omega,hJx3⟩⟩
  ·obtain rfl:k = 3:=by omega
   have hc0:wr.cell? ⟨B,0,none⟩ = some (.int .i64 (g:Int)):=hnd.cell (i:=0) rfl
   gi_wp2
   clear hc0
   gi_loopw [32] (fun u wr => ∃ γ:Nat,γ ≤ g ∧ u = .int .i64 (γ:Int) ∧ F (3 + 4 * γ) wr ∧ PtNeed B g S I J 0 wr) (fun u _ => g - (intOf u).toNat)
   case atStart => exact ⟨0,by omega,rfl,hF,hnd⟩
   case round =>
    clear hF hnd
    obtain ⟨γ,hγ,rfl,hF,hnd⟩:=hrel
    by_cases hlt2:γ < g
    ·have hc1:wr.cell? ⟨B,1,none⟩ = some (.int .i64 S):=hnd.cell (i:=1) rfl
     have hc3:wr.cell? ⟨B,3,none⟩ = some (.int .i64 J):=hnd.cell (i:=3) rfl
     have hgs:0 ≤ (γ:Int) * S ∧ (γ:Int) * S ≤ 2048:=by
      refine ⟨Int.mul_nonneg (by omega) (by omega),?_⟩
      have:=Int.mul_le_mul (show (γ:Int) ≤ 4 by omega) h4 (by omega) (by omega:(0:Int) ≤ 4)
      omega
     obtain ⟨hgs0,hgs1⟩:=hgs
     have l4:(γ:Int) < (g:Int):=by omega
     have hal4:=zero_arr4
     have HFN:Hid (F (3 + 4 * γ) wr ∧ PtNeed B g S I J 0 wr):=⟨hF,hnd⟩
     have hA0:=At.new wr 190 z20
     have HT4:Hid (0 ≤ I / 4 ∧ I / 4 ≤ 16):=by show _ ∧ _;omega
     have HPT:=Lib.hid (fun i hi => ptF_at S (I / 4) J γ (i:=i) hi)
     have HHT:Hid (3 + I / 4 ≤ S):=h10
     clear hF hnd t1 h10
     generalize I / 4 = t at *
     obtain ⟨ht0,ht1⟩:=HT4.out
     have ht2:=HHT.out
     have e1:IntKind.i64.wrap ((γ:Int) * S) = (γ:Int) * S:=IntWalk.i64_in _ (by omega)
     have e2:IntKind.i64.wrap (2 + J + (γ:Int) * S) = 2 + J + (γ:Int) * S:=IntWalk.i64_in _ (by omega)
     have e3:IntKind.i64.wrap (2 + J + (γ:Int) * S + 1) = 2 + J + (γ:Int) * S + 1:=IntWalk.i64_in _ (by omega)
     have e4:IntKind.i64.wrap (2 + J + (γ:Int) * S + 2) = 2 + J + (γ:Int) * S + 2:=IntWalk.i64_in _ (by omega)
     have e5:IntKind.i64.wrap (2 + J + (γ:Int) * S + 2 + t) = 2 + J + (γ:Int) * S + 2 + t:=IntWalk.i64_in _ (by omega)
     have e6:IntKind.i64.wrap (S - 2 - t) = S - 2 - t:=IntWalk.i64_in _ (by omega)
     have e7:IntKind.i64.wrap (2 + t) = 2 + t:=IntWalk.i64_in _ (by omega)
     gi_wp2_with (first | (refine wpIn_storeAt rfl 190 (.tmp 9) (.tmp 68) rfl wr.heap.size (h20 γ (2 + J + (γ:Int) * S) (2 + J + (γ:Int) * S + 1) (2 + J + (γ:Int) * S + 2) (2 + J + (γ:Int) * S + 2 + t) t (S - 2 - t) (2 + t)) z20 rfl rfl hA0 info_parts4 rfl (all_h20 _ _ _ _ _ _ _ _) ?_))
     intro w4 hA4 ho4
     have hN4:PtNeed B g S I J 0 w4:=At.below HFN.out.2 (storedP ho4) (At.lt HFN.out.2)
     have hF4:=HJB.out _ _ _ HFN.out.1 (storedP ho4)
     clear HFN hA0 ho4 hc1 hc3 e1 e2 e3 e4 e5 e6 e7
     obtain ⟨p1,hp1⟩:∃ p,2 + J + (γ:Int) * S = p:=⟨_,rfl⟩
     have HPT2:Hid (∀ i:Nat,i < 4 → ptF S t J (3 + 4 * γ + i) = if i = 0 then pcells 4 γ p1 1 0 else if i = 1 then pcells 5 γ (p1 + 1) 1 1 else if i = 2 then pcells 6 γ (p1 + 2) t 2 else pcells 7 γ (p1 + 2 + t) (S - 2 - t) (2 + t)):=fun i hi => by rw [HPT.out i hi,hp1]
     rw [hp1] at hA4 ⊢
     clear HPT hp1 hgs0 hgs1
     gi_wp2_with (first | (refine wpIn_loadAt rfl 190 (.tmp 9) rfl wr.heap.size (h20 γ p1 (p1 + 1) (p1 + 2) (p1 + 2 + t) t (S - 2 - t) (2 + t)) _ rfl hA4 Tryz.underlying190 rfl info_parts4 ?_))
     clear hA4 hal4
     gi_loopw [70] (fun u wr => ∃ i:Nat,i ≤ 4 ∧ u = .int .i64 (i:Int) ∧ F (3 + 4 * γ + i) wr ∧ PtNeed B g S I J 0 wr) (fun u _ => 4 - (intOf u).toNat)
     case atStart => exact ⟨0,by omega,rfl,hF4,hN4⟩
     case round =>
      clear hF4 hN4
      obtain ⟨i,hi,rfl,hF,hnd⟩:=hrel
      by_cases hlt3:i < 4
      ·have HPK:Hid (i = 0 ∧ ptF S t J (3 + 4 * γ + i) = pcells 4 γ p1 1 0 ∨ i = 1 ∧ ptF S t J (3 + 4 * γ + i) = pcells 5 γ (p1 + 1) 1 1 ∨ i = 2 ∧ ptF S t J (3 + 4 * γ + i) = pcells 6 γ (p1 + 2) t 2 ∨ i = 3 ∧ ptF S t J (3 + 4 * γ + i) = pcells 7 γ (p1 + 2 + t) (S - 2 - t) (2 + t)):=by
        have:i = 0 ∨ i = 1 ∨ i = 2 ∨ i = 3:=by omega
        rcases this with rfl | rfl | rfl | rfl
        ·exact .inl ⟨rfl,HPT2.out 0 (by omega)⟩
        ·exact .inr (.inl ⟨rfl,HPT2.out 1 (by omega)⟩)
        ·exact .inr (.inr (.inl ⟨rfl,HPT2.out 2 (by omega)⟩))
        ·exact .inr (.inr (.inr ⟨rfl,HPT2.out 3 (by omega)⟩))
       have hY1:=fun A h1 h2 => HY.out (3 + 4 * γ + i) A (by omega) h1 h2
       obtain ⟨cs,hcs⟩:∃ cs,ptF S t J (3 + 4 * γ + i) = cs:=⟨_,rfl⟩
       rw [hcs] at hY1
       have HY1:=Lib.hid hY1
       have hix:∀ W,(Instr.index 190 (.agg (h20 γ p1 (p1 + 1) (p1 + 2) (p1 + 2 + t) t (S - 2 - t) (2 + t))) (.int .i64 (i:Int))).run Tryz.prog W = .ok (.agg cs) W:=fun W => by
        rcases HPK.out with ⟨rfl,e⟩ | ⟨rfl,e⟩ | ⟨rfl,e⟩ | ⟨rfl,e⟩
        ·rw [← hcs,e];exact idx4_0 _ _ _ _ _ _ _ _ W
        ·rw [← hcs,e];exact idx4_1 _ _ _ _ _ _ _ _ W
        ·rw [← hcs,e];exact idx4_2 _ _ _ _ _ _ _ _ W
        ·rw [← hcs,e];exact idx4_3 _ _ _ _ _ _ _ _ W
       have hcsz:cs.size = 5:=by rcases HPK.out with ⟨rfl,e⟩ | ⟨rfl,e⟩ | ⟨rfl,e⟩ | ⟨rfl,e⟩ <;> (rw [← hcs,e];rfl)
       have hc1:cs.all (·.oneCell') = true:=by rcases HPK.out with ⟨rfl,e⟩ | ⟨rfl,e⟩ | ⟨rfl,e⟩ | ⟨rfl,e⟩ <;> (rw [← hcs,e];exact all_p _ _ _ _ _)
       clear hcs HPK hY1
       have hinf:(Tryz.prog.info? 126).map (·.size) = some cs.size:=by rw [hcsz];exact info_part
       have hA:=At.new wr 126 (pcells 0 0 0 0 0)
       have hal:=zero_part
       have hs0:(pcells 0 0 0 0 0).size = cs.size:=by rw [hcsz];rfl
       have l5:(i:Int) < 4:=by omega
       have HFN:Hid (F (3 + 4 * γ + i) wr ∧ PtNeed B g S I J 0 wr):=⟨hF,hnd⟩
       clear hF hnd hcsz
       gi_wp2_with (first | (refine wpIn_storeAt rfl 126 (.tmp 11) (.tmp 72) rfl wr.heap.size cs (pcells 0 0 0 0 0) rfl rfl hA hinf hs0 hc1 ?_))
       intro w2 hA2 ho2
       have hN2:PtNeed B g S I J 0 w2:=At.below HFN.out.2 (storedP ho2) (At.lt HFN.out.2)
       have hF2:=HJB.out _ _ _ HFN.out.1 (storedP ho2)
       obtain ⟨fn,tmps,assign,body,hy,hR⟩:=HY1.out w2 hF2 hN2
       clear HFN hA ho2 hix HY1 hc1 hs0
       gi_wp2_with (first | (refine wpIn_loadAt rfl 126 (.tmp 11) rfl wr.heap.size cs _ rfl hA2 Tryz.underlying126 rfl hinf ?_))
       refine hR.mono ?_
       rintro e W3 (⟨rfl,hJ3,hN3⟩ | ⟨rfl,hJx3⟩)
       ·gi_wp2
        go_roundw
        case rel => exact ⟨i + 1,by omega,int_eq (by omega),hJ3,hN3⟩
        case measure => simp [intOf];omega
       ·gi_wp2
        refine bodyPost_ret (results_none rfl _ _ _) rfl ?_
        exact ⟨⟨_,rfl⟩,.inr ⟨3 + 4 * γ + i,by omega,hJx3⟩⟩
      ·obtain rfl:i = 4:=by omega
       have l5:¬ ((4:Nat):Int) < 4:=by omega
       gi_wp2
       go_roundw
       case rel =>
        rw [show 3 + 4 * γ + 4 = 3 + 4 * (γ + 1) by omega] at hF
        exact ⟨_,_,_,_,.int .i64 ((γ:Int) + 1),⟨γ + 1,by omega,int_eq (by omega),hF⟩,rfl,rfl,rfl,rfl,rfl⟩
       case measure => simp [intOf];omega
    ·obtain rfl:γ = g:=by omega
     have l4:¬ (γ:Int) < (γ:Int):=by omega
     gi_wp2
     refine bodyPost_end (results_none rfl _ _ _) rfl ?_
     exact ⟨⟨_,rfl⟩,.inl (hF)⟩
end Go.Proofs.YtnbmmhoofilmfaaGreatDoor

namespace Go.Proofs.YtnbmmhoofilmfaaGreatDoor
open Go.RowKit
variable {P:Program}
theorem LocalP.bel {B:Nat} {X:World → Prop} (h:LocalP B X) {W W':World} (hs:X W) (hb:Below W.heap.size W W'):X W':=h W W' hs ⟨hb.os,hb.tape,hb.output,hb.size,fun k _ hl => hb.block k hl⟩
theorem LocalP.at {B b:Nat} (t:TypeId) (cs:Array Value) (hb:b < B):LocalP B (fun W => At W b t cs):=fun _ _ hs hg => (hg.block b hb (At.lt hs)).trans hs
theorem wp_rangeIx4 {g:Operand} {ps:Array Tmp} {asg bdy:Code} {Q:Exit → Act → World → Prop} {a:Act} {w:World} {gf:Nat} {lb:Array Value}
  (hg:a.eval g = .func (.func gf) #[] lb) (eg:∀ args w,(callFunc gf args).run P w = .ok (.enter gf args) w)
  {encs:Nat → Array Value} {N:Nat} {Need:Nat → World → Prop} (hit:IterIx Fence.wide 4 P gf lb encs N (fun _ => False) Need) (hps:∀ k,(encs k).size = ps.size)
  (T:TypeId) (cs:Nat → Array Value)
  (J:Nat → World → Prop) (Jx:Code → Nat → World → Prop)
  (hJ:∀ k,LocalP w.heap.size (J k)) (hJx:∀ c k,LocalP w.heap.size (Jx c k)) (hN:∀ k,LocalP w.heap.size (Need k)) (h0:J 0 w) (hn0:Need 0 w) (A1:Nat → Nat → Act)
  (assign:∀ (l k:Nat) (W:World) (K:Act → World → Prop),k < N → (∀ p W',p = W.heap.size → Below W.heap.size W W' → At W' p T (cs k) → K (A1 k p) W') →
   asg.wpIn (Fence.wide.inRound l) 3 P (Exit.then K (fun _ _ _ => False)) { tmps:=(ps.zip (encs k)).foldl (fun t (p,v) => t.setIfInBounds p v) a.tmps,defers:=[] } W)
  (body:∀ (l k p:Nat) (W:World),k < N → J k W → Need k W → At W p T (cs k) → bdy.wpIn (Fence.wide.inRound l) 3 P (roundIx w.heap.size J Jx Need k W) (A1 k p) W)
  (done:∀ (D:Nat) (W:World),w.heap.size ≤ D → J N W → W.heap[D]? = some (.deferred (some [])) → Q .normal { a with defers:={ target:=.collected D,args:=#[] } :: a.defers } W)
  (stop:∀ (D:Nat) (c:Code) (k:Nat) (W:World),w.heap.size ≤ D → k < N → Jx c k W → W.heap[D]? = some (.deferred (some [])) → c.wp P Q { a with defers:={ target:=.collected D,args:=#[] } :: a.defers } W) :
  (Code.rangeFunc g ps asg bdy).wp P Q a w:=by
 refine (wpIn_wide (n:=5)).1 ?_
 exact wpIn_rangeIx rfl (by decide) hg trivial eg hit (fun r h => h.elim) hps J Jx (fun k a' W => ∃ p,a' = A1 k p ∧ At W p T (cs k))
  (LocalP.own hJ) (fun c => LocalP.own (hJx c)) (LocalP.own hN)
  (fun a' k W W' row hs hgr hr => by
   obtain ⟨p,he,hA⟩:=hs
   refine ⟨p,he,(hgr.block p hA.lt (fun e => ?_)).trans hA⟩
   obtain ⟨_,o,ho,hc⟩:=hr p e.symm
   have:some (Obj.cells (cs k) T (0,0)) = some o:=hA.symm.trans ho
   injection this with this
   subst this
   cases hc)
  (fun k A C hs ht => (hJ k).turns hs ht) (fun c k A C hs ht => (hJx c k).turns hs ht) h0 hn0
  (fun l k W K hk hj hn hK => assign l k W K hk (fun p W' _ hb hA => hK _ _ (Below.keeps hb) ((hJ k).bel hj hb) ((hN k).bel hn hb) ⟨p,rfl,hA⟩))
  (fun l k a' W hk hj hn ha => by obtain ⟨p,rfl,hA⟩:=ha;exact body l k p W hk hj hn hA)
  done (fun D c k W h1 h2 h3 h4 => wpIn_wide.2 (stop D c k W h1 h2 h3 h4))
end Go.Proofs.YtnbmmhoofilmfaaGreatDoor

namespace Go.Proofs.YtnbmmhoofilmfaaGreatDoor
open Go.RowKit
set_option linter.unusedVariables false
attribute [local go_sem] Oper.semAt_some
theorem ptF_form {g:Nat} {S t J:Int} (h1:16 ≤ S) (h2:S ≤ 512) (h3:0 ≤ t) (h4:3 + t ≤ S) (h5:40 ≤ J) (h6:J ≤ 256) (hg:g ≤ 4) (k:Nat) (hk:k < 3 + 4 * g) :
  ∃ K Gg Fr Sz Pl:Int,ptF S t J k = pcells K Gg Fr Sz Pl ∧ (0 ≤ Fr ∧ 0 ≤ Sz ∧ Fr + Sz ≤ 2 + J + g * S ∧ 0 ≤ Pl ∧ Pl ≤ 512 ∧ Fr + Sz ≤ 4000 ∧ 0 ≤ K ∧ K ≤ 7) ∧
   (k = 0 ∧ Fr + Sz = 1 ∧ K = 1 ∨ k = 1 ∧ Fr + Sz = 2 ∧ K = 2 ∨ k = 2 ∧ Fr + Sz = 2 + J ∧ K = 3 ∨ 3 ≤ k ∧ 2 + J ≤ Fr + Sz ∧ 4 ≤ K ∧ K ≤ 7 ∧ (k + 1 = 3 + 4 * g → Fr + Sz = 2 + J + g * S)):=by
 have hgs0:0 ≤ (g:Int) * S:=Int.mul_nonneg (by omega) (by omega)
 have hgs1:(g:Int) * S ≤ 4 * 512:=Int.mul_le_mul (by omega) h2 (by omega) (by omega)
 by_cases c0:k = 0
 ·subst c0;exact ⟨1,0,0,1,0,rfl,by omega,by omega⟩
 by_cases c1:k = 1
 ·subst c1;exact ⟨2,0,1,1,0,rfl,by omega,by omega⟩
 by_cases c2:k = 2
 ·subst c2;exact ⟨3,0,2,J,0,rfl,by omega,by omega⟩
 obtain ⟨γ,i,hi,rfl⟩:∃ γ i,i < 4 ∧ k = 3 + 4 * γ + i:=⟨(k - 3) / 4,(k - 3) % 4,by omega,by omega⟩
 have hγ:γ + 1 ≤ g:=by omega
 have hm0:0 ≤ (γ:Int) * S:=Int.mul_nonneg (by omega) (by omega)
 have hm1:((γ:Int) + 1) * S ≤ (g:Int) * S:=Int.mul_le_mul_of_nonneg_right (by omega) (by omega)
 rw [Int.add_mul,Int.one_mul] at hm1
 have hlast:γ + 1 = g → (γ:Int) * S + S = (g:Int) * S:=fun e => by rw [← e];rw [show ((γ + 1:Nat):Int) = (γ:Int) + 1 by omega,Int.add_mul,Int.one_mul]
 rw [ptF_at S t J γ hi]
 generalize (γ:Int) * S = a at *
 generalize (g:Int) * S = b at *
 have:i = 0 ∨ i = 1 ∨ i = 2 ∨ i = 3:=by omega
 rcases this with rfl | rfl | rfl | rfl
 ·exact ⟨4,γ,2 + J + a,1,0,rfl,by omega,by omega⟩
 ·exact ⟨5,γ,2 + J + a + 1,1,1,rfl,by omega,by omega⟩
 ·exact ⟨6,γ,2 + J + a + 2,t,2,rfl,by omega,by omega⟩
 ·refine ⟨7,γ,2 + J + a + 2 + t,S - 2 - t,2 + t,rfl,by omega,.inr (.inr (.inr ⟨by omega,by omega,by omega,by omega,fun e => ?_⟩))⟩
  have:=hlast (by omega)
  omega
theorem At.setCell {w:World} {g:Nat} {T:TypeId} {cs:Array Value} (h:At w g T cs) (i:Nat) (v:Value):At (w.setCell ⟨g,i,none⟩ v) g T (cs.setIfInBounds i v):=by
 obtain ⟨hlt,hk⟩:=Array.getElem?_eq_some_iff.1 h
 show (w.heap.modify g _)[g]? = _
 rw [Array.getElem?_eq_getElem (by rw [Array.size_modify];exact hlt),Array.getElem_modify_self,hk]
 rfl
structure WhS (w:World) (G S I J x K A B:Int) (W:World):Prop where
 g:At W w.heap.size 23 (gcells G S I J)
 x:At W (w.heap.size + 1) 3 #[.int .i64 x]
 k:At W (w.heap.size + 2) 5 #[.int .u8 K]
 a:At W (w.heap.size + 3) 3 #[.int .i64 A]
 b:At W (w.heap.size + 4) 3 #[.int .i64 B]
 bel:Below w.heap.size w W
section
variable {w:World} {G S I J x K A B:Int} {W W':World}
theorem WhS.below (h:WhS w G S I J x K A B W) (hb:Below W.heap.size W W'):WhS w G S I J x K A B W':=⟨h.g.below hb h.g.lt,h.x.below hb h.x.lt,h.k.below hb h.k.lt,h.a.below hb h.a.lt,h.b.below hb h.b.lt,h.bel.trans (hb.mono h.bel.size)⟩
theorem WhS.sz (h:WhS w G S I J x K A B W):w.heap.size + 5 ≤ W.heap.size:=h.b.lt
theorem WhS.setK (h:WhS w G S I J x K A B W) (v:Int):WhS w G S I J x v A B (W.setCell ⟨w.heap.size + 2,0,none⟩ (.int .u8 v)) :=
 have ho:=Only.setCell W ⟨w.heap.size + 2,0,none⟩ (.int .u8 v)
 ⟨h.g.only ho (by simp),h.x.only ho (by simp),h.k.setCell 0 _,h.a.only ho (by simp),h.b.only ho (by simp),h.bel.trans (ho.below (by simp))⟩
theorem WhS.setA (h:WhS w G S I J x K A B W) (v:Int):WhS w G S I J x K v B (W.setCell ⟨w.heap.size + 3,0,none⟩ (.int .i64 v)) :=
 have ho:=Only.setCell W ⟨w.heap.size + 3,0,none⟩ (.int .i64 v)
 ⟨h.g.only ho (by simp),h.x.only ho (by simp),h.k.only ho (by simp),h.a.setCell 0 _,h.b.only ho (by simp),h.bel.trans (ho.below (by simp))⟩
theorem WhS.setB (h:WhS w G S I J x K A B W) (v:Int):WhS w G S I J x K A v (W.setCell ⟨w.heap.size + 4,0,none⟩ (.int .i64 v)) :=
 have ho:=Only.setCell W ⟨w.heap.size + 4,0,none⟩ (.int .i64 v)
 ⟨h.g.only ho (by simp),h.x.only ho (by simp),h.k.only ho (by simp),h.a.only ho (by simp),h.b.setCell 0 _,h.bel.trans (ho.below (by simp))⟩
theorem WhS.loc {B0:Nat} (hB:w.heap.size + 5 ≤ B0):LocalP B0 (WhS w G S I J x K A B):=fun A' C hs hg =>
 ⟨LocalP.at _ _ (by omega) A' C hs.g hg,LocalP.at _ _ (by omega) A' C hs.x hg,LocalP.at _ _ (by omega) A' C hs.k hg,LocalP.at _ _ (by omega) A' C hs.a hg,LocalP.at _ _ (by omega) A' C hs.b hg,LocalP.below w (by omega) (Nat.le_refl _) A' C hs.bel hg⟩
end
theorem parts_any (G S I J:Int) (w:World):Calls Tryz.prog 52 #[gval G S I J] w fun e w' => e = .returned (.func (.func 109) #[] #[.pointer (some ⟨w.heap.size,0,none⟩)]) ∧ At w' w.heap.size 23 (gcells G S I J) ∧ Below w.heap.size w w':=by
 have hA:=Lib.hid (At.new w 23 (gcells G S I J))
 have hL:Hid (Below w.heap.size w (w.alloc (.cells (gcells G S I J) 23))):=(Below.refl _ _).alloc (Nat.le_refl _) _
 go_enter Tryz.func52,Tryz.ntmps52
 go_wp2_with fail
 go_ret
 exact ⟨rfl,hA.out,hL.out⟩
structure WhC (w:World) (G S I J x K A B:Int) (p:Nat) (cs:Array Value) (B0:Nat) (W0:World) (t:Mv.St) (W:World):Prop where
 s:WhS w G S I J x (if t.n ≥ 1 then K else 0) (if t.n ≥ 2 then A else 0) (if t.n ≥ 3 then B else 0) W
 p:At W p 126 cs
 keep:KeepsFrom B0 W0 W
section
variable {w:World} {G S I J x K A B:Int} {p:Nat} {cs:Array Value} {B0:Nat} {W0 W:World}
theorem At.unlike {W:World} {p q:Nat} {T U:TypeId} {cs ds:Array Value} (h:At W p T cs) (k:At W q U ds) (hT:T ≠ U):p ≠ q:=by
 intro e
 subst e
 have:=h.symm.trans k
 injection this with this
 injection this with _ h2 _
 exact hT h2
theorem WhC.s1 (h:WhC w G S I J x K A B p cs B0 W0 ⟨0,undef⟩ W):WhC w G S I J x K A B p cs B0 W0 ⟨1,undef⟩ (W.setCell ⟨w.heap.size + 2,0,none⟩ (.int .u8 K)) :=
 have ho:=Only.setCell W ⟨w.heap.size + 2,0,none⟩ (.int .u8 K)
 ⟨h.s.setK K,h.p.only ho (At.unlike h.p h.s.k (by decide)),h.keep.trans (ho.keeps (h.s.k.cell (i:=0) rfl))⟩
theorem WhC.s2 (h:WhC w G S I J x K A B p cs B0 W0 ⟨1,undef⟩ W):WhC w G S I J x K A B p cs B0 W0 ⟨2,undef⟩ (W.setCell ⟨w.heap.size + 3,0,none⟩ (.int .i64 A)) :=
 have ho:=Only.setCell W ⟨w.heap.size + 3,0,none⟩ (.int .i64 A)
 ⟨h.s.setA A,h.p.only ho (At.unlike h.p h.s.a (by decide)),h.keep.trans (ho.keeps (h.s.a.cell (i:=0) rfl))⟩
theorem WhC.s3 (h:WhC w G S I J x K A B p cs B0 W0 ⟨2,undef⟩ W):WhC w G S I J x K A B p cs B0 W0 ⟨3,undef⟩ (W.setCell ⟨w.heap.size + 4,0,none⟩ (.int .i64 B)) :=
 have ho:=Only.setCell W ⟨w.heap.size + 4,0,none⟩ (.int .i64 B)
 ⟨h.s.setB B,h.p.only ho (At.unlike h.p h.s.b (by decide)),h.keep.trans (ho.keeps (h.s.b.cell (i:=0) rfl))⟩
end
theorem info_i64:(Tryz.prog.info? 3).map (·.size) = some 1:=by kernel_rfl
end Go.Proofs.YtnbmmhoofilmfaaGreatDoor

namespace Go.Proofs.YtnbmmhoofilmfaaGreatDoor
open Go.RowKit
variable {P:Program}
theorem wp_rangeIx2 {g:Operand} {ps:Array Tmp} {asg bdy:Code} {Q:Exit → Act → World → Prop} {a:Act} {w:World} {gf:Nat} {lb:Array Value}
  (hg:a.eval g = .func (.func gf) #[] lb) (eg:∀ args w,(callFunc gf args).run P w = .ok (.enter gf args) w)
  {encs:Nat → Array Value} {N:Nat} {Need:Nat → World → Prop} (hit:IterIx Fence.wide 4 P gf lb encs N (fun _ => False) Need) (hps:∀ k,(encs k).size = ps.size)
  (J:Nat → World → Prop) (Jx:Code → Nat → World → Prop)
  (hJ:∀ k,LocalP w.heap.size (J k)) (hJx:∀ c k,LocalP w.heap.size (Jx c k)) (hN:∀ k,LocalP w.heap.size (Need k)) (h0:J 0 w) (hn0:Need 0 w) (A1:Nat → Act)
  (assign:∀ (l k:Nat) (W:World) (K:Act → World → Prop),k < N → K (A1 k) W →
   asg.wpIn (Fence.wide.inRound l) 3 P (Exit.then K (fun _ _ _ => False)) { tmps:=(ps.zip (encs k)).foldl (fun t (p,v) => t.setIfInBounds p v) a.tmps,defers:=[] } W)
  (body:∀ (l k:Nat) (W:World),k < N → J k W → Need k W → bdy.wpIn (Fence.wide.inRound l) 3 P (roundIx w.heap.size J Jx Need k W) (A1 k) W)
  (done:∀ (D:Nat) (W:World),w.heap.size ≤ D → J N W → W.heap[D]? = some (.deferred (some [])) → Q .normal { a with defers:={ target:=.collected D,args:=#[] } :: a.defers } W)
  (stop:∀ (D:Nat) (c:Code) (k:Nat) (W:World),w.heap.size ≤ D → k < N → Jx c k W → W.heap[D]? = some (.deferred (some [])) → c.wp P Q { a with defers:={ target:=.collected D,args:=#[] } :: a.defers } W) :
  (Code.rangeFunc g ps asg bdy).wp P Q a w :=
 wp_rangeIx hg eg hit hps J Jx A1 hJ hJx hN h0 hn0 assign body done stop
end Go.Proofs.YtnbmmhoofilmfaaGreatDoor

namespace Go.Proofs.YtnbmmhoofilmfaaGreatDoor
open Go.RowKit Go.Shelf
set_option linter.unusedVariables false
theorem pthLevel_any (q:Nat) (hq:q ≤ 10) (w:World):Calls Tryz.prog 165 #[.int .i64 (q:Int)] w fun e w' => e = .returned (.int .i64 ((Im.lvl q:Nat):Int)) ∧ w = w':=by
 have h1:¬ (q:Int) < 0:=by omega
 have h2:¬ (10:Int) < (q:Int):=by omega
 by_cases h8:q < 8
 ·have h3:(q:Int) < 8:=by omega
  have FIN:Hid (Im.lvl q = 0):=by show _ = _;unfold Im.lvl;rw [if_pos h8]
  go_enter Tryz.func165,Tryz.ntmps165
  go_wp2_with fail
  go_ret
  exact ⟨by rw [FIN.out];rfl,rfl⟩
 ·have h3:¬ (q:Int) < 8:=by omega
  have FIN:Hid ((q:Int) - 8 + 1 = ((Im.lvl q:Nat):Int)):=by show _ = _;unfold Im.lvl;rw [if_neg h8];omega
  go_enter Tryz.func165,Tryz.ntmps165
  go_wp2_with fail
  go_ret
  exact ⟨by rw [← FIN.out];rfl,rfl⟩
theorem pthSpan_any (l:Nat) (hl:l ≤ 3) (w:World):Calls Tryz.prog 176 #[.int .i64 (l:Int)] w fun e w' => e = .returned (.int .i64 ((Im.spn l:Nat):Int)) ∧ w = w':=by
 obtain rfl | rfl | rfl | rfl:l = 0 ∨ l = 1 ∨ l = 2 ∨ l = 3:=by omega
 ·go_enter Tryz.func176,Tryz.ntmps176
  go_wp2_with fail
  refine wp_loop_rounds 1 ?_
  rw [rounds_succ]
  go_wp2_with fail
  go_ret
  exact ⟨rfl,rfl⟩
 ·go_enter Tryz.func176,Tryz.ntmps176
  go_wp2_with fail
  refine wp_loop_rounds 2 ?_
  rw [rounds_succ]
  go_wp2_with fail
  rw [rounds_succ]
  go_wp2_with fail
  go_ret
  exact ⟨rfl,rfl⟩
 ·go_enter Tryz.func176,Tryz.ntmps176
  go_wp2_with fail
  refine wp_loop_rounds 3 ?_
  rw [rounds_succ]
  go_wp2_with fail
  rw [rounds_succ]
  go_wp2_with fail
  rw [rounds_succ]
  go_wp2_with fail
  go_ret
  exact ⟨rfl,rfl⟩
 ·go_enter Tryz.func176,Tryz.ntmps176
  go_wp2_with fail
  refine wp_loop_rounds 4 ?_
  rw [rounds_succ]
  go_wp2_with fail
  rw [rounds_succ]
  go_wp2_with fail
  rw [rounds_succ]
  go_wp2_with fail
  rw [rounds_succ]
  go_wp2_with fail
  go_ret
  exact ⟨rfl,rfl⟩
def fstX (k:Nat):Nat:=if k < 9 then k else if k = 9 then 72 else if k = 10 then 4168 else 266312
theorem fstX_step {k:Nat} (hk:k < 11):(fstX k:Int) + (Im.spn (Im.lvl k):Nat) = (fstX (k + 1):Nat):=by
 have:k = 0 ∨ k = 1 ∨ k = 2 ∨ k = 3 ∨ k = 4 ∨ k = 5 ∨ k = 6 ∨ k = 7 ∨ k = 8 ∨ k = 9 ∨ k = 10:=by omega
 rcases this with rfl | rfl | rfl | rfl | rfl | rfl | rfl | rfl | rfl | rfl | rfl <;> decide
theorem fstX_bd (k:Nat):fstX k ≤ 266312:=by
 unfold fstX;split
 ·omega
 ·split
  ·omega
  ·split <;> omega
theorem lvl_bd {k:Nat} (hk:k < 11):Im.lvl k ≤ 3:=by unfold Im.lvl;split <;> omega
theorem spn_bd {l:Nat} (hl:l ≤ 3):1 ≤ Im.spn l ∧ Im.spn l ≤ 262144:=by
 obtain rfl | rfl | rfl | rfl:l = 0 ∨ l = 1 ∨ l = 2 ∨ l = 3:=by omega
 all_goals decide
def ptEnc (k:Nat):Array Value:=#[.int .i64 (k:Int),.int .i64 ((fstX k:Nat):Int)]
set_option maxRecDepth 100000 in
set_option maxHeartbeats 4000000 in
theorem pointers_iter (n:Nat) (hn:1 ≤ n):IterIx Fence.wide n Tryz.prog 199 #[] ptEnc 11 (fun _ => False) (fun _ _ => True):=by
 intro l J Jx W _ _ hY h0 hN
 have HY:=Lib.hid hY
 clear hY
 refine callsIn_of_wp Tryz.func199 rfl trivial ?_ rfl
 simp only [Tryz.ntmps199,List.size_toArray,List.length_cons,List.length_nil,Nat.reduceAdd,Nat.reduceSub,Array.replicate_succ,Array.replicate_zero,List.push_toArray,List.append_toArray,List.nil_append,List.cons_append]
 gi_wp2
 gi_loopw [2,4] (fun f i wr => ∃ k:Nat,k ≤ 11 ∧ i = .int .i64 (k:Int) ∧ f = .int .i64 ((fstX k:Nat):Int) ∧ J k wr) (fun _ i _ => 11 - (intOf i).toNat)
 case atStart => exact ⟨0,Nat.zero_le _,rfl,rfl,h0⟩
 case round =>
  obtain ⟨k,hk,rfl,rfl,hJ⟩:=hrel
  by_cases hlt:k < 11
  ·obtain ⟨fn,tmps,assign,body,hy,hR⟩:=HY.out k wr hlt hJ trivial
   dsimp only [ptEnc] at hy
   have hlt':(k:Int) < 11:=by omega
   gi_wp2
   refine hR.mono ?_
   clear hR hy
   rintro e W3 (⟨rfl,hJ3,hN3⟩ | ⟨rfl,hJx3⟩)
   ·gi_wp2_with (first | (refine ⟨trivial,?_⟩;gi_at_call 165;refine (callsIn_wide.2 (pthLevel_any k (by omega) _)).mono ?_;rintro e w' ⟨rfl,rfl⟩) | (refine ⟨trivial,?_⟩;gi_at_call 176;refine (callsIn_wide.2 (pthSpan_any (Im.lvl k) (lvl_bd hlt) _)).mono ?_;rintro e w' ⟨rfl,rfl⟩))
    go_roundw
    case rel => exact ⟨k + 1,by omega,by go_num,by (refine int_eq ?_;rw [IntWalk.wrap64_in _ (by have h1:=fstX_step hlt;have h2:=fstX_bd (k + 1);omega)];exact fstX_step hlt),hJ3⟩
    case measure => simp [intOf];omega
   ·gi_wp2
    refine bodyPost_ret (results_none rfl _ _ _) rfl ?_
    exact ⟨⟨_,rfl⟩,.inr ⟨k,hlt,hJx3⟩⟩
  ·obtain rfl:k = 11:=by omega
   gi_wp2
   refine bodyPost_end (results_none rfl _ _ _) rfl ?_
   exact ⟨⟨_,rfl⟩,.inl hJ⟩
end Go.Proofs.YtnbmmhoofilmfaaGreatDoor

namespace Go.Proofs.YtnbmmhoofilmfaaGreatDoor
open Go.RowKit
set_option linter.unusedVariables false
attribute [local go_sem] Oper.semAt_some
theorem pthPointers_any (w:World):Calls Tryz.prog 175 #[] w fun e w' => e = .returned (.func (.func 199) #[] #[]) ∧ w = w':=by
 have hmf:∀ (fn:Fn) (first cap:Array Value) (w:World),(Instr.makeFunc fn first cap).run Tryz.prog w = .ok (.func fn first cap) w:=fun _ _ _ _ => rfl
 go_enter Tryz.func175,Tryz.ntmps175
 go_wp2_with fail
 go_ret
 exact ⟨rfl,rfl⟩
theorem fst_fstX {q:Nat} (hq:q ≤ 10):Im.fst q = fstX q:=by
 unfold Im.fst fstX
 by_cases h1:q < 9
 ·rw [if_pos h1,if_pos h1]
 ·rw [if_neg h1,if_neg h1]
  by_cases h2:q = 9
  ·rw [if_pos h2,if_pos h2]
  ·rw [if_neg h2,if_neg h2,if_pos (by omega)]
structure FrS (w:World) (q r:Int) (W:World):Prop where
 q:At W w.heap.size 3 #[.int .i64 q]
 r:At W (w.heap.size + 1) 3 #[.int .i64 r]
 bel:Below w.heap.size w W
theorem FrS.loc {w:World} {q r:Int} {B:Nat} (hB:w.heap.size + 1 < B):LocalP B (FrS w q r):=fun A C h hg =>
 ⟨LocalP.heap _ (by omega) A C h.q hg,LocalP.heap _ hB A C h.r hg,LocalP.below w (by omega) (Nat.le_refl _) A C h.bel hg⟩
set_option maxRecDepth 100000 in
set_option maxHeartbeats 4000000 in
theorem pthFirst_any (q:Nat) (hq:q ≤ 10) (w:World):Calls Tryz.prog 166 #[.int .i64 (q:Int)] w fun e w' => e = .returned (.int .i64 ((Im.fst q:Nat):Int)) ∧ Below w.heap.size w w':=by
 refine (callsIn_wide (n:=5)).1 (callsIn_of_wp_marks Tryz.func166 rfl trivial ?_ rfl)
 refine wpIn_wide.2 ?_
 simp only [Tryz.ntmps166,List.size_toArray,List.length_cons,List.length_nil,Nat.reduceAdd,Nat.reduceSub,Array.replicate_succ,Array.replicate_zero,List.push_toArray,List.append_toArray,List.nil_append,List.cons_append]
 have st0:FrS w (q:Int) 0 ((w.alloc (.cells #[.int .i64 (q:Int)] 3)).alloc (.cells #[.int .i64 0] 3)):=by
  refine ⟨(At.new w _ _).alloc _,?_,((Below.refl _ _).alloc (Nat.le_refl _) _).alloc (by simp) _⟩
  have:=At.new (w.alloc (.cells #[.int .i64 (q:Int)] 3)) 3 #[.int .i64 0]
  rwa [World.size_alloc] at this
 have HFX:Hid (Im.fst q = fstX q):=fst_fstX hq
 have ST0:=Lib.hid st0
 clear st0
 go_wp2_with fail
 refine (pthPointers_any _).mono ?_
 rintro e w1 ⟨rfl,rfl⟩
 go_wp2_with fail
 apply wp_rangeIx2 (gf:=199) (lb:=#[]) rfl (enters_of Tryz.func199 (by kernel_rfl) rfl)
  (pointers_iter 4 (by decide)) (fun k => rfl)
  (fun k W => k ≤ q ∧ FrS w (q:Int) 0 W) (fun c k W => c = .ret ∧ FrS w (q:Int) ((fstX q:Nat):Int) W)
  (fun k => (LocalP.pure _ _).and (FrS.loc (by simp)))
  (fun c k => (LocalP.pure _ _).and (FrS.loc (by simp)))
  (fun k => LocalP.pure _ True)
  ⟨Nat.zero_le _,ST0.out⟩ trivial
 case assign =>
  intro l k W K hk hK
  dsimp only [ptEnc]
  gi_wp2
  exact hK
 case body =>
  rintro l k W hk ⟨hkq,st⟩ _
  have c0:W.cell? ⟨w.heap.size,0,none⟩ = some (.int .i64 (q:Int)):=st.q.cell (i:=0) rfl
  have c1:W.cell? ⟨w.heap.size + 1,0,none⟩ = some (.int .i64 0):=st.r.cell (i:=0) rfl
  have f1:W.frozen? ⟨w.heap.size + 1,0,none⟩ = false:=soft_of_heap st.r 0
  by_cases he:k = q
  ·subst he
   have q1:((k:Int) == (k:Int)) = true:=by simp
   have ho:=Only.setCell W ⟨w.heap.size + 1,0,none⟩ (.int .i64 ((fstX k:Nat):Int))
   have HF:Hid (KeepsFrom ((w.alloc (.cells #[.int .i64 (k:Int)] 3)).alloc (.cells #[.int .i64 0] 3)).heap.size W (W.setCell ⟨w.heap.size + 1,0,none⟩ (.int .i64 ((fstX k:Nat):Int))) ∧ FrS w (k:Int) ((fstX k:Nat):Int) (W.setCell ⟨w.heap.size + 1,0,none⟩ (.int .i64 ((fstX k:Nat):Int)))) :=
    ⟨ho.keeps c1,st.q.only ho (by simp),heap_setCell_at st.r 0 _,st.bel.trans (ho.below (by simp))⟩
   clear st ho
   gi_wp2
   exact ⟨HF.out.1,rfl,HF.out.2⟩
  ·have q1:((k:Int) == (q:Int)) = false:=by simp;omega
   have ST:=Lib.hid st
   have hk1:k + 1 ≤ q:=by omega
   clear st he
   gi_wp2
   exact ⟨KeepsFrom.refl _ _,⟨hk1,ST.out⟩,trivial⟩
 case done =>
  rintro D W hD ⟨h,_⟩ _
  omega
 case stop =>
  rintro D c k W hD hk ⟨rfl,st⟩ hK
  have hr:=st.r.cell (i:=0) (v:=.int .i64 ((fstX q:Nat):Int)) rfl
  have hb:=st.bel
  have hDw:w.heap.size ≤ D:=by simp at hD;omega
  have hr2:=cell_putObj (D:=D) (o':=.deferred none) hK rfl hr
  go_wp2_with fail
  refine bodyPostM_done (v:=.int .i64 ((fstX q:Nat):Int)) (D:=D) hK ?_ ⟨by rw [HFX.out],below_putObj hb _ (Nat.le_refl _) hDw⟩
  simp [results,Tryz.f166,go_sem,hr2]
end Go.Proofs.YtnbmmhoofilmfaaGreatDoor

namespace Go.Proofs.YtnbmmhoofilmfaaGreatDoor
open Go.RowKit
set_option linter.unusedVariables false
def tr0 (s:Int):Tr:=⟨s,0,fun _ => 0,fun _ _ => 0,0,fun _ => 0⟩
section
variable {w:World} {la:Option Addr} {N:Nat} {L:Nat → Nat → Int} {n m:Nat} {s:Int} {cb:Nat → Int} {cd:Nat → Nat → Int} {rv:Nat → Int} {ca:Option Addr} {cc:Nat} {ra:Option Addr} {rc:Nat} {W W':World}
end
theorem AtGrown {W W1:World} {g:Nat} {T:TypeId} {cs:Array Value} {row:Option Nat} (h:At W g T cs) (hg:W.grownBy W1 row) (hne:row ≠ some g):At W1 g T cs:=(hg.block _ h.lt (fun e => hne e.symm)).trans h
theorem info_int3:(Tryz.prog.info? 3).map (fun i => (i.zero,i.size,i.bytes)) = some (some (.int .i64 0),1,8):=by kernel_rfl
theorem info_intP:∃ i,Tryz.prog.info? 3 = some i ∧ i.zero = some (.int .i64 0) ∧ i.size = 1 ∧ i.bytes = 8:=by
 obtain ⟨i,hi,hz⟩:=Option.map_eq_some_iff.1 info_int3
 simp only [Prod.mk.injEq] at hz
 exact ⟨i,hi,hz.1,hz.2.1,hz.2.2⟩
structure POk (t:Tr) (s:Int) (K:Nat):Prop where
 s:t.s = s
 cb:∀ i,0 ≤ t.cb i ∧ t.cb i < 4294967296
 cd:∀ i,Byt (t.cd i)
 rv:∀ i,0 ≤ t.rv i ∧ t.rv i < 4294967296
 n:t.n ≤ K
 m:t.m ≤ 60 * K
 cb0:∀ i,t.n ≤ i → t.cb i = 0
 rv0:∀ i,t.m ≤ i → t.rv i = 0
theorem POk.ok {t:Tr} {s:Int} {n:Nat} (h:POk t s n) (hs:0 ≤ s ∧ s < 4294967296) (hn:n ≤ 255):t.Ok :=
 ⟨by rw [h.s];exact hs,fun i => by have:=h.cb i;omega,h.cd,fun i => by have:=h.rv i;omega,by have:=h.n;omega,by have:=h.m;omega,h.cb0,h.rv0⟩
theorem POk.zero (s:Int):POk (tr0 s) s 0:=⟨rfl,fun i => ⟨Int.le_refl 0,(by decide:(0:Int) < 4294967296)⟩,fun i => zero_bytJ,fun i => ⟨Int.le_refl 0,(by decide:(0:Int) < 4294967296)⟩,Nat.le_refl _,Nat.le_refl _,fun i _ => rfl,fun i _ => rfl⟩
theorem RRow.take {w:World} {a:Option Addr} {m n:Nat} {f:Nat → List Value} (h:RRow w a m n f) (k:Nat) (hk:k ≤ n):RRow w a m k f:=by
 rcases h with h | ⟨b,off,rfl,h⟩
 ·exact .inl (by omega)
 ·exact .inr ⟨b,off,rfl,fun i hi => h i (by omega)⟩
section
variable {t:Tr} {L:Nat → Nat → Int} {N:Nat}
end
section
variable {L:Nat → Nat → Int} {N:Nat}
end
end Go.Proofs.YtnbmmhoofilmfaaGreatDoor
