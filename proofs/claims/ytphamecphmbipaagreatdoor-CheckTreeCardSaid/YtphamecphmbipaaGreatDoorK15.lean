/- Texts of this claim, merged. -/
import Derived.Test.YtphamecphmbipaaGreatDoorK14
import Derived.Laws.CopyRow
import Derived.Deep.RegionLaw
set_option maxRecDepth 100000
set_option maxHeartbeats 16000000

namespace Go.Proofs.YtphamecphmbipaaGreatDoor
open Go.RowKit
set_option linter.unusedVariables false
def bS (ino:Int) (s:ByteArray):Nat → Int:=if ino = 0 then fun _ => 0 else mkS s ino
def mkP (s:ByteArray) (ino:Int) (i:Nat):Nat → Int:=fun j => if j < 4 then byteOf ino j else if j = 4 then (s.size:Int) else if j - 5 < i then bz s (j - 5) else 0
theorem mkP_zero (s:ByteArray) (ino:Int) (j:Nat):over (over (fun _ => 0) 0 4 (byteOf ino)) 4 1 (fun _ => (s.size:Int)) j = mkP s ino 0 j:=by
 unfold over mkP
 by_cases h:j < 4
 ·rw [if_neg (by omega),if_pos (by omega),if_pos h];rfl
 ·rw [if_neg h]
  by_cases h4:j = 4
  ·rw [if_pos (by omega),if_pos h4]
  ·rw [if_neg (by omega),if_neg (by omega),if_neg h4,if_neg (by omega)]
theorem mkP_succ (s:ByteArray) (ino:Int) (i j:Nat):over (mkP s ino i) (5 + i) 1 (fun _ => bz s i) j = mkP s ino (i + 1) j:=by
 unfold over mkP
 by_cases h:j < 4
 ·rw [if_neg (by omega),if_pos h,if_pos h]
 ·by_cases h4:j = 4
  ·rw [if_neg (by omega),if_neg h,if_pos h4,if_neg h,if_pos h4]
  ·by_cases h5:j - 5 = i
   ·rw [if_pos (by omega),if_neg h,if_neg h4,if_pos (by omega),h5]
   ·rw [if_neg (by omega),if_neg h,if_neg h4,if_neg h,if_neg h4]
    by_cases h6:j - 5 < i
    ·rw [if_pos h6,if_pos (by omega)]
    ·rw [if_neg h6,if_neg (by omega)]
theorem Mine.blk {w:World} {base g n:Nat} {e:TypeId} {z:Nat → Int} (h:Mine w base e (some ⟨g,0,none⟩) n n z):Blk w g e n z ∧ base ≤ g:=by
 rcases h.2 with ⟨hv,_⟩ | ⟨g',cap',cur,hv,hb,hg,hn,hc,hs,ht⟩
 ·cases hv
 ·injection hv with h1 h2 h3
  injection h1 with h1
  injection h1 with h1
  subst h1 h3
  refine ⟨?_,hb⟩
  have:cur = (Ks .u8 n z).toArray:=by
   apply Array.ext'
   rw [← show (Bs n z) = Ks .u8 n z from rfl,← ht,List.take_of_length_le (by simp;omega)]
  unfold Blk
  rw [hg,this]
structure ByB (w:World) (ino:Int) (s:ByteArray) (W:World):Prop where
 x:At W w.heap.size 90 #[.int .u32 ino,.string s]
 bel:Below w.heap.size w W
structure ByS (w:World) (ino:Int) (s:ByteArray) (G:Nat) (z:Nat → Int) (W:World):Prop extends ByB w ino s W where
 b:Blk W G 5 32 z
 ge:w.heap.size < G
theorem ByS.only {w:World} {ino:Int} {s:ByteArray} {G:Nat} {z y:Nat → Int} {W W':World} (h:ByS w ino s G z W) (hB:Blk W' G 5 32 y) (ho:Only G W W'):ByS w ino s G y W' :=
 ⟨⟨h.x.only ho (by have:=h.ge;omega),h.bel.trans (ho.below (Nat.le_of_lt h.ge))⟩,hB,h.ge⟩
theorem rBytes_any (ino:Int) (s:ByteArray) (hi:0 ≤ ino ∧ ino < 4294967296) (hs:ino = 0 ∨ s.size ≤ 27) (w:World) :
  Calls Tryz.prog 107 #[sv ino s] w fun e w' => ∃ g,w.heap.size ≤ g ∧ e = .returned (.slice (some ⟨g,0,none⟩) 32 32) ∧ Blk w' g 5 32 (bS ino s) ∧ Below w.heap.size w w':=by
 obtain ⟨hi0,hi1⟩:=hi
 have HS:Hid (ByB w ino s (w.alloc (.cells #[.int .u32 ino,.string s] 90))):=⟨At.new _ _ _,(Below.refl _ _).alloc (Nat.le_refl _) _⟩
 go_enter Tryz.func107,Tryz.ntmps107
 go_wp2_with (first | (refine wp_makeB rfl _ _ rfl (w.heap.size + 1) 32 32 rfl rfl rfl (by omega) (by simp) ?_))
 intro w1 hm1 hg1
 have st0:=HS.out
 have hsz:(w.alloc (.cells #[.int .u32 ino,.string s] 90)).heap.size = w.heap.size + 1:=by simp
 obtain ⟨hb1,hge1⟩:=hm1.blk
 have hlt1:w.heap.size < w.heap.size + 1:=by omega
 have st1:ByS w ino s (w.heap.size + 1) (fun _ => 0) w1:=⟨⟨(hg1.block _ st0.x.lt (by simp)).trans st0.x,st0.bel.grown hg1 st0.bel.size (fun k e => by cases e)⟩,hb1,hlt1⟩
 clear st0 HS hm1 hg1 hb1 hge1 hlt1 hsz
 generalize w.heap.size + 1 = G at *
 have c0:w1.cell? ⟨w.heap.size,0,none⟩ = some (.int .u32 ino):=st1.x.cell (i:=0) rfl
 have c1:w1.cell? ⟨w.heap.size,1,none⟩ = some (.string s):=st1.x.cell (i:=1) rfl
 by_cases h0:ino = 0
 ·subst h0
  have fin:Hid (∃ g,w.heap.size ≤ g ∧ (Ending.returned (.slice (some ⟨G,0,none⟩) 32 32)) = .returned (.slice (some ⟨g,0,none⟩) 32 32) ∧ Blk w1 g 5 32 (bS 0 s) ∧ Below w.heap.size w w1):=⟨G,by have:=st1.ge;omega,rfl,st1.b,st1.bel⟩
  clear hs
  go_wp2_with fail
  go_ret
  exact fin.out
 have hs27:s.size ≤ 27:=by
  rcases hs with h | h
  ·exact absurd h h0
  ·exact h
 have q0:(ino == 0) = false:=by simpa using h0
 have HB:Hid (bS ino s = mkS s ino):=by show _ = _;unfold bS;rw [if_neg h0]
 clear h0 hs
 go_wp2_with fail
 refine (rput32_yes G 0 32 32 0 ino (fun _ => 0) _ (by decide) (by decide) (by decide) hi0 hi1 st1.b.seg byt_zero (st1.b.soft _ _)).mono ?_
 rintro e w2 ⟨rfl,hp2⟩
 have st2:=st1.only (st1.b.puts hp2) hp2.only
 clear st1 hp2 c0 c1
 have c0:w2.cell? ⟨w.heap.size,0,none⟩ = some (.int .u32 ino):=st2.x.cell (i:=0) rfl
 have c1:w2.cell? ⟨w.heap.size,1,none⟩ = some (.string s):=st2.x.cell (i:=1) rfl
 have l6:IntKind.u8.wrap (s.size:Int) = (s.size:Int):=IntWalk.u8_in _ (by omega)
 have hB:=st2.b
 go_wp2_with (first | (refine wp_storeByte rfl _ _ rfl _ 4 (s.size:Int) rfl rfl hB (by omega) ?_))
 intro w3 hB3 ho3
 have st3:ByS w ino s G (mkP s ino 0) w3:=st2.only (hB3.congr fun j _ => mkP_zero s ino j) ho3
 clear st2 hB hB3 ho3 c0 c1
 go_wp2_with fail
 go_loopw [4] (fun u wr => ∃ k:Nat,k ≤ s.size ∧ u = .int .i64 (k:Int) ∧ ByS w ino s G (mkP s ino k) wr) (fun u _ => s.size - (intOf u).toNat)
 case atStart => exact ⟨0,by omega,rfl,st3⟩
 case round =>
  clear st3
  obtain ⟨k,hk,rfl,st⟩:=hrel
  have c1:wr.cell? ⟨w.heap.size,1,none⟩ = some (.string s):=st.x.cell (i:=1) rfl
  by_cases hlt:k < s.size
  ·have hidx:s.data.size = s.size:=rfl
   have l0:(0:Int) ≤ (k:Int):=by omega
   have l1:(k:Int) < (s.size:Int):=by omega
   have hB:=st.b
   have HZ:Hid ((s[k].toNat:Int) = bz s k):=by
    show _ = _
    unfold bz
    rw [List.getD,List.getElem?_eq_getElem (by simpa using hlt)];rfl
   go_wp2_with (first | (refine wp_storeByte rfl _ _ rfl _ (5 + k) (s[k].toNat:Int) rfl rfl hB (by omega) ?_))
   intro w4 hB4 ho4
   have st4:ByS w ino s G (mkP s ino (k + 1)) w4:=st.only (hB4.congr fun j _ => by rw [HZ.out];exact mkP_succ s ino k j) ho4
   clear st hB hB4 ho4 c1
   go_wp2_with fail
   go_roundw
   case rel => first | exact ⟨k + 1,by omega,by go_num,st4⟩ | ((repeat apply Exists.intro);exact ⟨⟨k + 1,by omega,by go_num,st4⟩,rfl⟩)
   case measure => simp [intOf];omega
  ·obtain rfl:k = s.size:=by omega
   have fin:Hid (∃ g,w.heap.size ≤ g ∧ (Ending.returned (.slice (some ⟨G,0,none⟩) 32 32)) = .returned (.slice (some ⟨g,0,none⟩) 32 32) ∧ Blk wr g 5 32 (bS ino s) ∧ Below w.heap.size w wr):=⟨G,by have:=st.ge;omega,rfl,by rw [HB.out];exact st.b,st.bel⟩
   go_wp2_with fail
   go_ret
   exact fin.out
end Go.Proofs.YtphamecphmbipaaGreatDoor

namespace Go.Proofs.YtphamecphmbipaaGreatDoor
open Go.RowKit Go.Shelf
set_option linter.unusedVariables false
attribute [local go_sem] Oper.semAt_some
abbrev pcells (kind group from' size place:Int):Array Value:=#[.int .u8 kind,.int .i64 group,.int .i64 from',.int .i64 size,.int .i64 place]
def ptF (S t J:Int) (k:Nat):Array Value :=
 if k = 0 then pcells 1 0 0 1 0 else if k = 1 then pcells 2 0 1 1 0 else if k = 2 then pcells 3 0 2 J 0 else
 if (k - 3) % 4 = 0 then pcells 4 ((k - 3) / 4:Nat) (2 + J + ((k - 3) / 4:Nat) * S) 1 0 else
 if (k - 3) % 4 = 1 then pcells 5 ((k - 3) / 4:Nat) (2 + J + ((k - 3) / 4:Nat) * S + 1) 1 1 else
 if (k - 3) % 4 = 2 then pcells 6 ((k - 3) / 4:Nat) (2 + J + ((k - 3) / 4:Nat) * S + 2) t 2 else
 pcells 7 ((k - 3) / 4:Nat) (2 + J + ((k - 3) / 4:Nat) * S + 2 + t) (S - 2 - t) (2 + t)
theorem ptF_at (S t J:Int) (γ:Nat) {i:Nat} (hi:i < 4):ptF S t J (3 + 4 * γ + i) = if i = 0 then pcells 4 γ (2 + J + (γ:Int) * S) 1 0 else if i = 1 then pcells 5 γ (2 + J + (γ:Int) * S + 1) 1 1 else if i = 2 then pcells 6 γ (2 + J + (γ:Int) * S + 2) t 2 else pcells 7 γ (2 + J + (γ:Int) * S + 2 + t) (S - 2 - t) (2 + t):=by
 have e1:(3 + 4 * γ + i - 3) % 4 = i:=by omega
 have e2:(3 + 4 * γ + i - 3) / 4 = γ:=by omega
 unfold ptF
 rw [if_neg (by omega),if_neg (by omega),if_neg (by omega),e1,e2]
def PtNeed (B:Nat) (G S I J:Int):Nat → World → Prop:=fun _ W => At W B 23 (gcells G S I J)
theorem zero_part (W:World):(zeroValue 117).run Tryz.prog W = .ok (.agg (pcells 0 0 0 0 0)) W:=by kernel_rfl
theorem idx3_0 (J:Int) (W:World):(Instr.index 164 (.agg #[.int .u8 1,.int .i64 0,.int .i64 0,.int .i64 1,.int .i64 0,.int .u8 2,.int .i64 0,.int .i64 1,.int .i64 1,.int .i64 0,.int .u8 3,.int .i64 0,.int .i64 2,.int .i64 J,.int .i64 0]) (.int .i64 0)).run Tryz.prog W = .ok (.agg (pcells 1 0 0 1 0)) W:=by kernel_rfl
theorem idx3_1 (J:Int) (W:World):(Instr.index 164 (.agg #[.int .u8 1,.int .i64 0,.int .i64 0,.int .i64 1,.int .i64 0,.int .u8 2,.int .i64 0,.int .i64 1,.int .i64 1,.int .i64 0,.int .u8 3,.int .i64 0,.int .i64 2,.int .i64 J,.int .i64 0]) (.int .i64 1)).run Tryz.prog W = .ok (.agg (pcells 2 0 1 1 0)) W:=by kernel_rfl
theorem idx3_2 (J:Int) (W:World):(Instr.index 164 (.agg #[.int .u8 1,.int .i64 0,.int .i64 0,.int .i64 1,.int .i64 0,.int .u8 2,.int .i64 0,.int .i64 1,.int .i64 1,.int .i64 0,.int .u8 3,.int .i64 0,.int .i64 2,.int .i64 J,.int .i64 0]) (.int .i64 2)).run Tryz.prog W = .ok (.agg (pcells 3 0 2 J 0)) W:=by kernel_rfl
theorem idx4_0 (g a b c d t s p:Int) (W:World):(Instr.index 165 (.agg #[.int .u8 4,.int .i64 g,.int .i64 a,.int .i64 1,.int .i64 0,.int .u8 5,.int .i64 g,.int .i64 b,.int .i64 1,.int .i64 1,.int .u8 6,.int .i64 g,.int .i64 c,.int .i64 t,.int .i64 2,.int .u8 7,.int .i64 g,.int .i64 d,.int .i64 s,.int .i64 p]) (.int .i64 0)).run Tryz.prog W = .ok (.agg (pcells 4 g a 1 0)) W:=by kernel_rfl
theorem idx4_1 (g a b c d t s p:Int) (W:World):(Instr.index 165 (.agg #[.int .u8 4,.int .i64 g,.int .i64 a,.int .i64 1,.int .i64 0,.int .u8 5,.int .i64 g,.int .i64 b,.int .i64 1,.int .i64 1,.int .u8 6,.int .i64 g,.int .i64 c,.int .i64 t,.int .i64 2,.int .u8 7,.int .i64 g,.int .i64 d,.int .i64 s,.int .i64 p]) (.int .i64 1)).run Tryz.prog W = .ok (.agg (pcells 5 g b 1 1)) W:=by kernel_rfl
theorem idx4_2 (g a b c d t s p:Int) (W:World):(Instr.index 165 (.agg #[.int .u8 4,.int .i64 g,.int .i64 a,.int .i64 1,.int .i64 0,.int .u8 5,.int .i64 g,.int .i64 b,.int .i64 1,.int .i64 1,.int .u8 6,.int .i64 g,.int .i64 c,.int .i64 t,.int .i64 2,.int .u8 7,.int .i64 g,.int .i64 d,.int .i64 s,.int .i64 p]) (.int .i64 2)).run Tryz.prog W = .ok (.agg (pcells 6 g c t 2)) W:=by kernel_rfl
theorem idx4_3 (g a b c d t s p:Int) (W:World):(Instr.index 165 (.agg #[.int .u8 4,.int .i64 g,.int .i64 a,.int .i64 1,.int .i64 0,.int .u8 5,.int .i64 g,.int .i64 b,.int .i64 1,.int .i64 1,.int .u8 6,.int .i64 g,.int .i64 c,.int .i64 t,.int .i64 2,.int .u8 7,.int .i64 g,.int .i64 d,.int .i64 s,.int .i64 p]) (.int .i64 3)).run Tryz.prog W = .ok (.agg (pcells 7 g d s p)) W:=by kernel_rfl
theorem info_part:(Tryz.prog.info? 117).map (·.size) = some 5:=by kernel_rfl
theorem info_parts3:(Tryz.prog.info? 164).map (·.size) = some 15:=by kernel_rfl
theorem info_parts4:(Tryz.prog.info? 165).map (·.size) = some 20:=by kernel_rfl
abbrev h15 (J:Int):Array Value:=#[.int .u8 1,.int .i64 0,.int .i64 0,.int .i64 1,.int .i64 0,.int .u8 2,.int .i64 0,.int .i64 1,.int .i64 1,.int .i64 0,.int .u8 3,.int .i64 0,.int .i64 2,.int .i64 J,.int .i64 0]
theorem all_h15 (J:Int):(h15 J).all (·.oneCell') = true:=by kernel_rfl
theorem all_p (a b c d e:Int):(pcells a b c d e).all (·.oneCell') = true:=by kernel_rfl
abbrev z15:Array Value:=#[.int .u8 0,.int .i64 0,.int .i64 0,.int .i64 0,.int .i64 0,.int .u8 0,.int .i64 0,.int .i64 0,.int .i64 0,.int .i64 0,.int .u8 0,.int .i64 0,.int .i64 0,.int .i64 0,.int .i64 0]
abbrev h20 (γ a b c d t s p:Int):Array Value:=#[.int .u8 4,.int .i64 γ,.int .i64 a,.int .i64 1,.int .i64 0,.int .u8 5,.int .i64 γ,.int .i64 b,.int .i64 1,.int .i64 1,.int .u8 6,.int .i64 γ,.int .i64 c,.int .i64 t,.int .i64 2,.int .u8 7,.int .i64 γ,.int .i64 d,.int .i64 s,.int .i64 p]
theorem all_h20 (γ a b c d t s p:Int):(h20 γ a b c d t s p).all (·.oneCell') = true:=by kernel_rfl
abbrev z20:Array Value:=#[.int .u8 0,.int .i64 0,.int .i64 0,.int .i64 0,.int .i64 0,.int .u8 0,.int .i64 0,.int .i64 0,.int .i64 0,.int .i64 0,.int .u8 0,.int .i64 0,.int .i64 0,.int .i64 0,.int .i64 0,.int .u8 0,.int .i64 0,.int .i64 0,.int .i64 0,.int .i64 0]
theorem zero_arr4 (W:World):(zeroValue 165).run Tryz.prog W = .ok (.agg z20) W:=by kernel_rfl
theorem zero_arr3 (W:World):(zeroValue 164).run Tryz.prog W = .ok (.agg z15) W:=by kernel_rfl
theorem storedP {w w':World} {o:Obj} (ho:Only w.heap.size (w.alloc o) w'):Below w.heap.size w w':=((Below.refl _ _).alloc (Nat.le_refl _) o).trans (ho.below (Nat.le_refl _))
theorem parts_iter (n:Nat) (hn:1 ≤ n) (B:Nat) (G S I J:Int) (hm:mayG G S I J = true) :
  IterIx Fence.wide n Tryz.prog 90 #[.pointer (some ⟨B,0,none⟩)] (fun k => #[.agg (ptF S (I / 4) J k)]) (3 + 4 * G.toNat) (fun _ => False) (PtNeed B G S I J):=by
 obtain ⟨h1,h2,h3,h4,h5,h6,h7,h8,h9,h10,h11⟩:=(mayG_iff G S I J).1 hm
 obtain ⟨g,rfl⟩:∃ g:Nat,G = (g:Int):=⟨G.toNat,by omega⟩
 rw [Int.toNat_natCast]
 intro l F Fx W hJo hJxo hY h0 hN
 have HY:=Lib.hid hY
 have HJO:=Lib.hid hJo
 clear hY hJo hJxo
 have hc0:W.cell? ⟨B,0,none⟩ = some (.int .i64 (g:Int)):=hN.cell (i:=0) rfl
 have hc1:W.cell? ⟨B,1,none⟩ = some (.int .i64 S):=hN.cell (i:=1) rfl
 have hc2:W.cell? ⟨B,2,none⟩ = some (.int .i64 I):=hN.cell (i:=2) rfl
 have hc3:W.cell? ⟨B,3,none⟩ = some (.int .i64 J):=hN.cell (i:=3) rfl
 have t1:=i64_quo4 I h5
 refine callsIn_of_wp Tryz.func90 rfl trivial ?_ rfl
 simp only [Tryz.ntmps90,List.size_toArray,List.length_cons,List.length_nil,Nat.reduceAdd,Nat.reduceSub,Array.replicate_succ,Array.replicate_zero,List.push_toArray,List.append_toArray,List.nil_append,List.cons_append]
 have HJB:Hid (∀ k (A A':World),F k A → Below A.heap.size A A' → F k A'):=fun k A A' h hb => HJO.out k A _ h ⟨none,grown_below hb,fun r e => by cases e⟩
 have hal3:=zero_arr3
 have hA0:=At.new W 164 z15
 gi_wp2_with (first | (refine wpIn_storeAt rfl 164 (.tmp 4) (.tmp 20) rfl W.heap.size (h15 J) z15 rfl rfl hA0 info_parts3 rfl (all_h15 J) ?_))
 intro w1 hA1 ho1
 have hN1:PtNeed B g S I J 0 w1:=At.below hN (storedP ho1) hN.lt
 have hF1:=HJB.out _ _ _ h0 (storedP ho1)
 clear hc0 hc1 hc2 hc3 hA0 hN h0 ho1
 gi_wp2_with (first | (refine wpIn_loadAt rfl 164 (.tmp 4) rfl W.heap.size (h15 J) _ rfl hA1 Tryz.underlying164 rfl info_parts3 ?_))
 clear hA1
 gi_loopw [22] (fun u wr => ∃ k:Nat,k ≤ 3 ∧ u = .int .i64 (k:Int) ∧ F k wr ∧ PtNeed B g S I J 0 wr) (fun u _ => 3 - (intOf u).toNat)
 case atStart => exact ⟨0,by omega,rfl,hF1,hN1⟩
 case round =>
  clear hF1 hN1
  obtain ⟨k,hk,rfl,hF,hnd⟩:=hrel
  by_cases hlt:k < 3
  ·have HPK:Hid (k = 0 ∧ ptF S (I / 4) J k = pcells 1 0 0 1 0 ∨ k = 1 ∧ ptF S (I / 4) J k = pcells 2 0 1 1 0 ∨ k = 2 ∧ ptF S (I / 4) J k = pcells 3 0 2 J 0):=by
    have:k = 0 ∨ k = 1 ∨ k = 2:=by omega
    rcases this with rfl | rfl | rfl
    ·exact .inl ⟨rfl,rfl⟩
    ·exact .inr (.inl ⟨rfl,rfl⟩)
    ·exact .inr (.inr ⟨rfl,rfl⟩)
   have hY1:=fun A h1 h2 => HY.out k A (by omega) h1 h2
   obtain ⟨cs,hcs⟩:∃ cs,ptF S (I / 4) J k = cs:=⟨_,rfl⟩
   rw [hcs] at hY1
   have HY1:=Lib.hid hY1
   have hix:∀ W,(Instr.index 164 (.agg (h15 J)) (.int .i64 (k:Int))).run Tryz.prog W = .ok (.agg cs) W:=fun W => by
    rcases HPK.out with ⟨rfl,e⟩ | ⟨rfl,e⟩ | ⟨rfl,e⟩
    ·rw [← hcs,e];exact idx3_0 J W
    ·rw [← hcs,e];exact idx3_1 J W
    ·rw [← hcs,e];exact idx3_2 J W
   have hcsz:cs.size = 5:=by rcases HPK.out with ⟨rfl,e⟩ | ⟨rfl,e⟩ | ⟨rfl,e⟩ <;> (rw [← hcs,e];rfl)
   have hc1:cs.all (·.oneCell') = true:=by rcases HPK.out with ⟨rfl,e⟩ | ⟨rfl,e⟩ | ⟨rfl,e⟩ <;> (rw [← hcs,e];exact all_p _ _ _ _ _)
   clear hcs HPK hY1
   have hinf:(Tryz.prog.info? 117).map (·.size) = some cs.size:=by rw [hcsz];exact info_part
   have hA:=At.new wr 117 (pcells 0 0 0 0 0)
   have hal:=zero_part
   have hs0:(pcells 0 0 0 0 0).size = cs.size:=by rw [hcsz];rfl
   have l3:(k:Int) < 3:=by omega
   have HFN:Hid (F k wr ∧ PtNeed B g S I J 0 wr):=⟨hF,hnd⟩
   clear hF hnd hcsz
   gi_wp2_with (first | (refine wpIn_storeAt rfl 117 (.tmp 6) (.tmp 24) rfl wr.heap.size cs (pcells 0 0 0 0 0) rfl rfl hA hinf hs0 hc1 ?_))
   intro w2 hA2 ho2
   have hN2:PtNeed B g S I J 0 w2:=At.below HFN.out.2 (storedP ho2) (At.lt HFN.out.2)
   have hF2:=HJB.out _ _ _ HFN.out.1 (storedP ho2)
   obtain ⟨fn,tmps,assign,body,hy,hR⟩:=HY1.out w2 hF2 hN2
   clear HFN hA ho2 hix HY1 hc1 hs0
   gi_wp2_with (first | (refine wpIn_loadAt rfl 117 (.tmp 6) rfl wr.heap.size cs _ rfl hA2 Tryz.underlying117 rfl hinf ?_))
   refine hR.mono ?_
   rintro e W3 (⟨rfl,hJ3,hN3⟩ | ⟨rfl,hJx3⟩)
   ·gi_wp2
    go_roundw
    case rel => exact ⟨k + 1,by omega,int_eq (by omega),hJ3,hN3⟩
    case measure => simp [intOf];omega
   ·gi_wp2
    refine bodyPost_ret (results_none rfl _ _ _) rfl ?_
    exact ⟨⟨_,rfl⟩,.inr ⟨k,by omega,hJx3⟩⟩
  ·obtain rfl:k = 3:=by omega
   have hc0:wr.cell? ⟨B,0,none⟩ = some (.int .i64 (g:Int)):=hnd.cell (i:=0) rfl
   gi_wp2
   clear hc0
   gi_loopw [32] (fun u wr => ∃ γ:Nat,γ ≤ g ∧ u = .int .i64 (γ:Int) ∧ F (3 + 4 * γ) wr ∧ PtNeed B g S I J 0 wr) (fun u _ => g - (intOf u).toNat)
   case atStart => exact ⟨0,by omega,rfl,hF,hnd⟩
   case round =>
    clear hF hnd
    obtain ⟨γ,hγ,rfl,hF,hnd⟩:=hrel
    by_cases hlt2:γ < g
    ·have hc1:wr.cell? ⟨B,1,none⟩ = some (.int .i64 S):=hnd.cell (i:=1) rfl
     have hc3:wr.cell? ⟨B,3,none⟩ = some (.int .i64 J):=hnd.cell (i:=3) rfl
     have hgs:0 ≤ (γ:Int) * S ∧ (γ:Int) * S ≤ 2048:=by
      refine ⟨Int.mul_nonneg (by omega) (by omega),?_⟩
      have:=Int.mul_le_mul (show (γ:Int) ≤ 4 by omega) h4 (by omega) (by omega:(0:Int) ≤ 4)
      omega
     obtain ⟨hgs0,hgs1⟩:=hgs
     have l4:(γ:Int) < (g:Int):=by omega
     have hal4:=zero_arr4
     have HFN:Hid (F (3 + 4 * γ) wr ∧ PtNeed B g S I J 0 wr):=⟨hF,hnd⟩
     have hA0:=At.new wr 165 z20
     have HT4:Hid (0 ≤ I / 4 ∧ I / 4 ≤ 16):=by show _ ∧ _;omega
     have HPT:=Lib.hid (fun i hi => ptF_at S (I / 4) J γ (i:=i) hi)
     have HHT:Hid (3 + I / 4 ≤ S):=h10
     clear hF hnd t1 h10
     generalize I / 4 = t at *
     obtain ⟨ht0,ht1⟩:=HT4.out
     have ht2:=HHT.out
     have e1:IntKind.i64.wrap ((γ:Int) * S) = (γ:Int) * S:=IntWalk.i64_in _ (by omega)
     have e2:IntKind.i64.wrap (2 + J + (γ:Int) * S) = 2 + J + (γ:Int) * S:=IntWalk.i64_in _ (by omega)
     have e3:IntKind.i64.wrap (2 + J + (γ:Int) * S + 1) = 2 + J + (γ:Int) * S + 1:=IntWalk.i64_in _ (by omega)
     have e4:IntKind.i64.wrap (2 + J + (γ:Int) * S + 2) = 2 + J + (γ:Int) * S + 2:=IntWalk.i64_in _ (by omega)
     have e5:IntKind.i64.wrap (2 + J + (γ:Int) * S + 2 + t) = 2 + J + (γ:Int) * S + 2 + t:=IntWalk.i64_in _ (by omega)
     have e6:IntKind.i64.wrap (S - 2 - t) = S - 2 - t:=IntWalk.i64_in _ (by omega)
     have e7:IntKind.i64.wrap (2 + t) = 2 + t:=IntWalk.i64_in _ (by omega)
     gi_wp2_with (first | (refine wpIn_storeAt rfl 165 (.tmp 9) (.tmp 68) rfl wr.heap.size (h20 γ (2 + J + (γ:Int) * S) (2 + J + (γ:Int) * S + 1) (2 + J + (γ:Int) * S + 2) (2 + J + (γ:Int) * S + 2 + t) t (S - 2 - t) (2 + t)) z20 rfl rfl hA0 info_parts4 rfl (all_h20 _ _ _ _ _ _ _ _) ?_))
     intro w4 hA4 ho4
     have hN4:PtNeed B g S I J 0 w4:=At.below HFN.out.2 (storedP ho4) (At.lt HFN.out.2)
     have hF4:=HJB.out _ _ _ HFN.out.1 (storedP ho4)
     clear HFN hA0 ho4 hc1 hc3 e1 e2 e3 e4 e5 e6 e7
     obtain ⟨p1,hp1⟩:∃ p,2 + J + (γ:Int) * S = p:=⟨_,rfl⟩
     have HPT2:Hid (∀ i:Nat,i < 4 → ptF S t J (3 + 4 * γ + i) = if i = 0 then pcells 4 γ p1 1 0 else if i = 1 then pcells 5 γ (p1 + 1) 1 1 else if i = 2 then pcells 6 γ (p1 + 2) t 2 else pcells 7 γ (p1 + 2 + t) (S - 2 - t) (2 + t)):=fun i hi => by rw [HPT.out i hi,hp1]
     rw [hp1] at hA4 ⊢
     clear HPT hp1 hgs0 hgs1
     gi_wp2_with (first | (refine wpIn_loadAt rfl 165 (.tmp 9) rfl wr.heap.size (h20 γ p1 (p1 + 1) (p1 + 2) (p1 + 2 + t) t (S - 2 - t) (2 + t)) _ rfl hA4 Tryz.underlying165 rfl info_parts4 ?_))
     clear hA4 hal4
     gi_loopw [70] (fun u wr => ∃ i:Nat,i ≤ 4 ∧ u = .int .i64 (i:Int) ∧ F (3 + 4 * γ + i) wr ∧ PtNeed B g S I J 0 wr) (fun u _ => 4 - (intOf u).toNat)
     case atStart => exact ⟨0,by omega,rfl,hF4,hN4⟩
     case round =>
      clear hF4 hN4
      obtain ⟨i,hi,rfl,hF,hnd⟩:=hrel
      by_cases hlt3:i < 4
      ·have HPK:Hid (i = 0 ∧ ptF S t J (3 + 4 * γ + i) = pcells 4 γ p1 1 0 ∨ i = 1 ∧ ptF S t J (3 + 4 * γ + i) = pcells 5 γ (p1 + 1) 1 1 ∨ i = 2 ∧ ptF S t J (3 + 4 * γ + i) = pcells 6 γ (p1 + 2) t 2 ∨ i = 3 ∧ ptF S t J (3 + 4 * γ + i) = pcells 7 γ (p1 + 2 + t) (S - 2 - t) (2 + t)):=by
        have:i = 0 ∨ i = 1 ∨ i = 2 ∨ i = 3:=by omega
        rcases this with rfl | rfl | rfl | rfl
        ·exact .inl ⟨rfl,HPT2.out 0 (by omega)⟩
        ·exact .inr (.inl ⟨rfl,HPT2.out 1 (by omega)⟩)
        ·exact .inr (.inr (.inl ⟨rfl,HPT2.out 2 (by omega)⟩))
        ·exact .inr (.inr (.inr ⟨rfl,HPT2.out 3 (by omega)⟩))
       have hY1:=fun A h1 h2 => HY.out (3 + 4 * γ + i) A (by omega) h1 h2
       obtain ⟨cs,hcs⟩:∃ cs,ptF S t J (3 + 4 * γ + i) = cs:=⟨_,rfl⟩
       rw [hcs] at hY1
       have HY1:=Lib.hid hY1
       have hix:∀ W,(Instr.index 165 (.agg (h20 γ p1 (p1 + 1) (p1 + 2) (p1 + 2 + t) t (S - 2 - t) (2 + t))) (.int .i64 (i:Int))).run Tryz.prog W = .ok (.agg cs) W:=fun W => by
        rcases HPK.out with ⟨rfl,e⟩ | ⟨rfl,e⟩ | ⟨rfl,e⟩ | ⟨rfl,e⟩
        ·rw [← hcs,e];exact idx4_0 _ _ _ _ _ _ _ _ W
        ·rw [← hcs,e];exact idx4_1 _ _ _ _ _ _ _ _ W
        ·rw [← hcs,e];exact idx4_2 _ _ _ _ _ _ _ _ W
        ·rw [← hcs,e];exact idx4_3 _ _ _ _ _ _ _ _ W
       have hcsz:cs.size = 5:=by rcases HPK.out with ⟨rfl,e⟩ | ⟨rfl,e⟩ | ⟨rfl,e⟩ | ⟨rfl,e⟩ <;> (rw [← hcs,e];rfl)
       have hc1:cs.all (·.oneCell') = true:=by rcases HPK.out with ⟨rfl,e⟩ | ⟨rfl,e⟩ | ⟨rfl,e⟩ | ⟨rfl,e⟩ <;> (rw [← hcs,e];exact all_p _ _ _ _ _)
       clear hcs HPK hY1
       have hinf:(Tryz.prog.info? 117).map (·.size) = some cs.size:=by rw [hcsz];exact info_part
       have hA:=At.new wr 117 (pcells 0 0 0 0 0)
       have hal:=zero_part
       have hs0:(pcells 0 0 0 0 0).size = cs.size:=by rw [hcsz];rfl
       have l5:(i:Int) < 4:=by omega
       have HFN:Hid (F (3 + 4 * γ + i) wr ∧ PtNeed B g S I J 0 wr):=⟨hF,hnd⟩
       clear hF hnd hcsz
       gi_wp2_with (first | (refine wpIn_storeAt rfl 117 (.tmp 11) (.tmp 72) rfl wr.heap.size cs (pcells 0 0 0 0 0) rfl rfl hA hinf hs0 hc1 ?_))
       intro w2 hA2 ho2
       have hN2:PtNeed B g S I J 0 w2:=At.below HFN.out.2 (storedP ho2) (At.lt HFN.out.2)
       have hF2:=HJB.out _ _ _ HFN.out.1 (storedP ho2)
       obtain ⟨fn,tmps,assign,body,hy,hR⟩:=HY1.out w2 hF2 hN2
       clear HFN hA ho2 hix HY1 hc1 hs0
       gi_wp2_with (first | (refine wpIn_loadAt rfl 117 (.tmp 11) rfl wr.heap.size cs _ rfl hA2 Tryz.underlying117 rfl hinf ?_))
       refine hR.mono ?_
       rintro e W3 (⟨rfl,hJ3,hN3⟩ | ⟨rfl,hJx3⟩)
       ·gi_wp2
        go_roundw
        case rel => exact ⟨i + 1,by omega,int_eq (by omega),hJ3,hN3⟩
        case measure => simp [intOf];omega
       ·gi_wp2
        refine bodyPost_ret (results_none rfl _ _ _) rfl ?_
        exact ⟨⟨_,rfl⟩,.inr ⟨3 + 4 * γ + i,by omega,hJx3⟩⟩
      ·obtain rfl:i = 4:=by omega
       have l5:¬ ((4:Nat):Int) < 4:=by omega
       gi_wp2
       go_roundw
       case rel =>
        rw [show 3 + 4 * γ + 4 = 3 + 4 * (γ + 1) by omega] at hF
        exact ⟨_,_,_,_,.int .i64 ((γ:Int) + 1),⟨γ + 1,by omega,int_eq (by omega),hF⟩,rfl,rfl,rfl,rfl,rfl⟩
       case measure => simp [intOf];omega
    ·obtain rfl:γ = g:=by omega
     have l4:¬ (γ:Int) < (γ:Int):=by omega
     gi_wp2
     refine bodyPost_end (results_none rfl _ _ _) rfl ?_
     exact ⟨⟨_,rfl⟩,.inl (hF)⟩
end Go.Proofs.YtphamecphmbipaaGreatDoor

namespace Go.Proofs.YtphamecphmbipaaGreatDoor
open Go.RowKit
set_option linter.unusedVariables false
section
attribute [local go_sem] Oper.semAt_some
theorem ptF_form {g:Nat} {S t J:Int} (h1:16 ≤ S) (h2:S ≤ 512) (h3:0 ≤ t) (h4:3 + t ≤ S) (h5:40 ≤ J) (h6:J ≤ 256) (hg:g ≤ 4) (k:Nat) (hk:k < 3 + 4 * g) :
  ∃ K Gg Fr Sz Pl:Int,ptF S t J k = pcells K Gg Fr Sz Pl ∧ (0 ≤ Fr ∧ 0 ≤ Sz ∧ Fr + Sz ≤ 2 + J + g * S ∧ 0 ≤ Pl ∧ Pl ≤ 512 ∧ Fr + Sz ≤ 4000 ∧ 0 ≤ K ∧ K ≤ 7) ∧
   (k = 0 ∧ Fr + Sz = 1 ∧ K = 1 ∨ k = 1 ∧ Fr + Sz = 2 ∧ K = 2 ∨ k = 2 ∧ Fr + Sz = 2 + J ∧ K = 3 ∨ 3 ≤ k ∧ 2 + J ≤ Fr + Sz ∧ 4 ≤ K ∧ K ≤ 7 ∧ (k + 1 = 3 + 4 * g → Fr + Sz = 2 + J + g * S)):=by
 have hgs0:0 ≤ (g:Int) * S:=Int.mul_nonneg (by omega) (by omega)
 have hgs1:(g:Int) * S ≤ 4 * 512:=Int.mul_le_mul (by omega) h2 (by omega) (by omega)
 by_cases c0:k = 0
 ·subst c0;exact ⟨1,0,0,1,0,rfl,by omega,by omega⟩
 by_cases c1:k = 1
 ·subst c1;exact ⟨2,0,1,1,0,rfl,by omega,by omega⟩
 by_cases c2:k = 2
 ·subst c2;exact ⟨3,0,2,J,0,rfl,by omega,by omega⟩
 obtain ⟨γ,i,hi,rfl⟩:∃ γ i,i < 4 ∧ k = 3 + 4 * γ + i:=⟨(k - 3) / 4,(k - 3) % 4,by omega,by omega⟩
 have hγ:γ + 1 ≤ g:=by omega
 have hm0:0 ≤ (γ:Int) * S:=Int.mul_nonneg (by omega) (by omega)
 have hm1:((γ:Int) + 1) * S ≤ (g:Int) * S:=Int.mul_le_mul_of_nonneg_right (by omega) (by omega)
 rw [Int.add_mul,Int.one_mul] at hm1
 have hlast:γ + 1 = g → (γ:Int) * S + S = (g:Int) * S:=fun e => by rw [← e];rw [show ((γ + 1:Nat):Int) = (γ:Int) + 1 by omega,Int.add_mul,Int.one_mul]
 rw [ptF_at S t J γ hi]
 generalize (γ:Int) * S = a at *
 generalize (g:Int) * S = b at *
 have:i = 0 ∨ i = 1 ∨ i = 2 ∨ i = 3:=by omega
 rcases this with rfl | rfl | rfl | rfl
 ·exact ⟨4,γ,2 + J + a,1,0,rfl,by omega,by omega⟩
 ·exact ⟨5,γ,2 + J + a + 1,1,1,rfl,by omega,by omega⟩
 ·exact ⟨6,γ,2 + J + a + 2,t,2,rfl,by omega,by omega⟩
 ·refine ⟨7,γ,2 + J + a + 2 + t,S - 2 - t,2 + t,rfl,by omega,.inr (.inr (.inr ⟨by omega,by omega,by omega,by omega,fun e => ?_⟩))⟩
  have:=hlast (by omega)
  omega
theorem At.setCell {w:World} {g:Nat} {T:TypeId} {cs:Array Value} (h:At w g T cs) (i:Nat) (v:Value):At (w.setCell ⟨g,i,none⟩ v) g T (cs.setIfInBounds i v):=by
 obtain ⟨hlt,hk⟩:=Array.getElem?_eq_some_iff.1 h
 show (w.heap.modify g _)[g]? = _
 rw [Array.getElem?_eq_getElem (by rw [Array.size_modify];exact hlt),Array.getElem_modify_self,hk]
 rfl
structure WhS (w:World) (G S I J x K A B:Int) (W:World):Prop where
 g:At W w.heap.size 23 (gcells G S I J)
 x:At W (w.heap.size + 1) 3 #[.int .i64 x]
 k:At W (w.heap.size + 2) 5 #[.int .u8 K]
 a:At W (w.heap.size + 3) 3 #[.int .i64 A]
 b:At W (w.heap.size + 4) 3 #[.int .i64 B]
 bel:Below w.heap.size w W
section
variable {w:World} {G S I J x K A B:Int} {W W':World}
theorem WhS.below (h:WhS w G S I J x K A B W) (hb:Below W.heap.size W W'):WhS w G S I J x K A B W':=⟨h.g.below hb h.g.lt,h.x.below hb h.x.lt,h.k.below hb h.k.lt,h.a.below hb h.a.lt,h.b.below hb h.b.lt,h.bel.trans (hb.mono h.bel.size)⟩
theorem WhS.sz (h:WhS w G S I J x K A B W):w.heap.size + 5 ≤ W.heap.size:=h.b.lt
theorem WhS.setK (h:WhS w G S I J x K A B W) (v:Int):WhS w G S I J x v A B (W.setCell ⟨w.heap.size + 2,0,none⟩ (.int .u8 v)) :=
 have ho:=Only.setCell W ⟨w.heap.size + 2,0,none⟩ (.int .u8 v)
 ⟨h.g.only ho (by simp),h.x.only ho (by simp),h.k.setCell 0 _,h.a.only ho (by simp),h.b.only ho (by simp),h.bel.trans (ho.below (by simp))⟩
theorem WhS.setA (h:WhS w G S I J x K A B W) (v:Int):WhS w G S I J x K v B (W.setCell ⟨w.heap.size + 3,0,none⟩ (.int .i64 v)) :=
 have ho:=Only.setCell W ⟨w.heap.size + 3,0,none⟩ (.int .i64 v)
 ⟨h.g.only ho (by simp),h.x.only ho (by simp),h.k.only ho (by simp),h.a.setCell 0 _,h.b.only ho (by simp),h.bel.trans (ho.below (by simp))⟩
theorem WhS.setB (h:WhS w G S I J x K A B W) (v:Int):WhS w G S I J x K A v (W.setCell ⟨w.heap.size + 4,0,none⟩ (.int .i64 v)) :=
 have ho:=Only.setCell W ⟨w.heap.size + 4,0,none⟩ (.int .i64 v)
 ⟨h.g.only ho (by simp),h.x.only ho (by simp),h.k.only ho (by simp),h.a.only ho (by simp),h.b.setCell 0 _,h.bel.trans (ho.below (by simp))⟩
theorem WhS.loc {B0:Nat} (hB:w.heap.size + 5 ≤ B0):LocalP B0 (WhS w G S I J x K A B):=fun A' C hs hg =>
 ⟨LocalP.at _ _ (by omega) A' C hs.g hg,LocalP.at _ _ (by omega) A' C hs.x hg,LocalP.at _ _ (by omega) A' C hs.k hg,LocalP.at _ _ (by omega) A' C hs.a hg,LocalP.at _ _ (by omega) A' C hs.b hg,LocalP.below w (by omega) (Nat.le_refl _) A' C hs.bel hg⟩
end
theorem parts_any (G S I J:Int) (w:World):Calls Tryz.prog 44 #[gval G S I J] w fun e w' => e = .returned (.func (.func 90) #[] #[.pointer (some ⟨w.heap.size,0,none⟩)]) ∧ At w' w.heap.size 23 (gcells G S I J) ∧ Below w.heap.size w w':=by
 have hA:=Lib.hid (At.new w 23 (gcells G S I J))
 have hL:Hid (Below w.heap.size w (w.alloc (.cells (gcells G S I J) 23))):=(Below.refl _ _).alloc (Nat.le_refl _) _
 go_enter Tryz.func44,Tryz.ntmps44
 go_wp2_with fail
 go_ret
 exact ⟨rfl,hA.out,hL.out⟩
structure WhC (w:World) (G S I J x K A B:Int) (p:Nat) (cs:Array Value) (B0:Nat) (W0:World) (t:Mv.St) (W:World):Prop where
 s:WhS w G S I J x (if t.n ≥ 1 then K else 0) (if t.n ≥ 2 then A else 0) (if t.n ≥ 3 then B else 0) W
 p:At W p 117 cs
 keep:KeepsFrom B0 W0 W
section
variable {w:World} {G S I J x K A B:Int} {p:Nat} {cs:Array Value} {B0:Nat} {W0 W:World}
theorem At.unlike {W:World} {p q:Nat} {T U:TypeId} {cs ds:Array Value} (h:At W p T cs) (k:At W q U ds) (hT:T ≠ U):p ≠ q:=by
 intro e
 subst e
 have:=h.symm.trans k
 injection this with this
 injection this with _ h2 _
 exact hT h2
theorem WhC.s1 (h:WhC w G S I J x K A B p cs B0 W0 ⟨0,undef⟩ W):WhC w G S I J x K A B p cs B0 W0 ⟨1,undef⟩ (W.setCell ⟨w.heap.size + 2,0,none⟩ (.int .u8 K)) :=
 have ho:=Only.setCell W ⟨w.heap.size + 2,0,none⟩ (.int .u8 K)
 ⟨h.s.setK K,h.p.only ho (At.unlike h.p h.s.k (by decide)),h.keep.trans (ho.keeps (h.s.k.cell (i:=0) rfl))⟩
theorem WhC.s2 (h:WhC w G S I J x K A B p cs B0 W0 ⟨1,undef⟩ W):WhC w G S I J x K A B p cs B0 W0 ⟨2,undef⟩ (W.setCell ⟨w.heap.size + 3,0,none⟩ (.int .i64 A)) :=
 have ho:=Only.setCell W ⟨w.heap.size + 3,0,none⟩ (.int .i64 A)
 ⟨h.s.setA A,h.p.only ho (At.unlike h.p h.s.a (by decide)),h.keep.trans (ho.keeps (h.s.a.cell (i:=0) rfl))⟩
theorem WhC.s3 (h:WhC w G S I J x K A B p cs B0 W0 ⟨2,undef⟩ W):WhC w G S I J x K A B p cs B0 W0 ⟨3,undef⟩ (W.setCell ⟨w.heap.size + 4,0,none⟩ (.int .i64 B)) :=
 have ho:=Only.setCell W ⟨w.heap.size + 4,0,none⟩ (.int .i64 B)
 ⟨h.s.setB B,h.p.only ho (At.unlike h.p h.s.b (by decide)),h.keep.trans (ho.keeps (h.s.b.cell (i:=0) rfl))⟩
end
theorem info_i64:(Tryz.prog.info? 3).map (·.size) = some 1:=by kernel_rfl
end
theorem info_slot':(Tryz.prog.info? 90).map (fun i => (i.zero,i.size,i.bytes)) = some (some (.agg #[.int .u32 0,.string ByteArray.empty]),2,24):=by kernel_rfl
theorem run_slot1 (x:Int) (s:ByteArray) (w:World):(Instr.buildSlice 88 1 #[(0,.agg #[.int .u32 x,.string s])]).run Tryz.prog w = .ok (.slice (some ⟨w.heap.size,0,none⟩) 1 1) (w.alloc (.cells #[.int .u32 x,.string s] 90)):=by kernel_rfl
theorem slotOne (x:Int) (s:ByteArray):∀ u ∈ ([.int .u32 x,.string s]:List Value),u.oneCell' = true:=by
 intro u hu
 simp only [List.mem_cons,List.not_mem_nil,or_false] at hu
 rcases hu with rfl | rfl <;> rfl
structure PtS (w:World) (z:Nat → Int) (g:Nat) (y:Nat → Int) (W:World):Prop where
 b:Blk W w.heap.size 32 256 z
 p:Blk W g 5 32 y
 r:Blk W (w.heap.size + 1 + 1) 32 256 (fun _ => 0)
 bel:Below w.heap.size w W
 ge:w.heap.size < g
theorem PtS.put {w:World} {z z':Nat → Int} {g:Nat} {y:Nat → Int} {W W':World} (h:PtS w z g y W) (hB:Blk W' w.heap.size 32 256 z') (ho:Only w.heap.size W W'):PtS w z' g y W' :=
 ⟨hB,h.p.only ho (Nat.ne_of_gt h.ge),h.r.only ho (by omega),h.bel.trans (ho.below (Nat.le_refl _)),h.ge⟩
def putN (z:Nat → Int) (i:Nat) (y:Nat → Int) (n:Nat):Nat → Int:=over z (32 * i) n y
theorem putN_succ (z:Nat → Int) (i:Nat) (y:Nat → Int) (n j:Nat):over (putN z i y n) (32 * i + n) 1 (fun _ => y n) j = putN z i y (n + 1) j:=by
 unfold putN over
 by_cases h:32 * i + n = j
 ·subst h
  rw [if_pos (by omega),if_pos (by omega),show 32 * i + n - 32 * i = n by omega]
 ·rw [if_neg (by omega)]
  by_cases h2:32 * i ≤ j ∧ j < 32 * i + n
  ·rw [if_pos h2,if_pos (by omega)]
  ·rw [if_neg h2,if_neg (by omega)]
theorem rPut_any (z:Nat → Int) (i:Nat) (hi8:i < 8) (ino:Int) (s:ByteArray) (hi:0 ≤ ino ∧ ino < 4294967296) (hs:ino = 0 ∨ s.size ≤ 27) (w:World) :
  Calls Tryz.prog 65 #[bval z,.int .i64 (i:Int),sv ino s] w fun e w' => e = .returned (bval (putS z i (bS ino s))) ∧ Below w.heap.size w w':=by
 have hal:=zero_block
 obtain ⟨hi0,hi1⟩:=hi
 have HS:Hid (Blk (((w.alloc (.cells (Ks .u8 256 z).toArray 32)).alloc (.cells #[.int .u32 ino,.string s] 90)).alloc (.cells (Ks .u8 256 (fun _ => 0)).toArray 32)) w.heap.size 32 256 z ∧
   Blk (((w.alloc (.cells (Ks .u8 256 z).toArray 32)).alloc (.cells #[.int .u32 ino,.string s] 90)).alloc (.cells (Ks .u8 256 (fun _ => 0)).toArray 32)) (w.heap.size + 1 + 1) 32 256 (fun _ => 0) ∧
   Below w.heap.size w (((w.alloc (.cells (Ks .u8 256 z).toArray 32)).alloc (.cells #[.int .u32 ino,.string s] 90)).alloc (.cells (Ks .u8 256 (fun _ => 0)).toArray 32))):=by
  refine ⟨((Blk.new w _ 256 z).alloc _).alloc _,?_,(((Below.refl _ _).alloc (Nat.le_refl _) _).alloc (by simp) _).alloc (by simp;omega) _⟩
  have:=Blk.new ((w.alloc (.cells (Ks .u8 256 z).toArray 32)).alloc (.cells #[.int .u32 ino,.string s] 90)) 32 256 (fun _ => 0)
  simpa using this
 go_enter Tryz.func65,Tryz.ntmps65
 go_wp2_with fail
 generalize ((w.alloc (.cells (Ks .u8 256 z).toArray 32)).alloc (.cells #[.int .u32 ino,.string s] 90)).alloc (.cells (Ks .u8 256 (fun _ => 0)).toArray 32) = w0 at *
 refine (rBytes_any ino s ⟨hi0,hi1⟩ hs _).mono ?_
 rintro e w1 ⟨g,hg,rfl,hp,hb1⟩
 obtain ⟨h1,h2,h3⟩:=HS.out
 have st1:PtS w (putN z i (bS ino s) 0) g (bS ino s) w1:=⟨(h1.below hb1 h1.lt).congr fun j _ => by unfold putN over;rw [if_neg (by omega)],hp,h2.below hb1 h2.lt,h3.trans (hb1.mono h3.size),by have:=h1.lt;omega⟩
 have HPS:Hid (putN z i (bS ino s) 32 = putS z i (bS ino s)):=rfl
 generalize hyy:bS ino s = y at *
 have HYY:=Lib.hid hyy
 clear hyy
 clear HS h1 h2 h3 hp hb1 hg
 go_wp2_with fail
 go_loopw [8] (fun u wr => ∃ k:Nat,k ≤ 32 ∧ u = .int .i64 (k:Int) ∧ PtS w (putN z i y k) g y wr) (fun u _ => 32 - (intOf u).toNat)
 case atStart => exact ⟨0,by omega,rfl,st1⟩
 case round =>
  clear st1
  obtain ⟨k,hk,rfl,st⟩:=hrel
  by_cases hlt:k < 32
  ·have l0:(0:Int) ≤ (k:Int):=by omega
   have l1:(k:Int) < 32:=by omega
   have hB:=st.b
   have c0:wr.cell? ⟨g,k,none⟩ = some (.int .u8 (y k)):=by have:=st.p.seg k hlt;rwa [Nat.zero_add] at this
   have e1:(32 * (i:Int) + (k:Int)).toNat = 32 * i + k:=by omega
   have e2:(32 * (i:Int) + (k:Int)) < 256:=by omega
   have e3:(0:Int) ≤ 32 * (i:Int) + (k:Int):=by omega
   go_wp2_with (first | (refine wp_storeByte rfl _ _ rfl _ (32 * i + k) (y k) rfl rfl hB (by omega) ?_))
   intro w4 hB4 ho4
   have st4:PtS w (putN z i y (k + 1)) g y w4:=st.put (hB4.congr fun j _ => putN_succ z i y k j) ho4
   clear st hB hB4 ho4 c0
   go_wp2_with fail
   go_roundw
   case rel => first | exact ⟨k + 1,by omega,by go_num,st4⟩ | ((repeat apply Exists.intro);exact ⟨⟨k + 1,by omega,by go_num,st4⟩,rfl⟩)
   case measure => simp [intOf];omega
  ·obtain rfl:k = 32:=by omega
   have hB:=st.b
   have hR:=st.r
   rw [HPS.out] at hB
   go_wp2_with (first | (refine wp_loadBlkG rfl _ rfl _ _ rfl hB ?_) | (refine wp_storeBlk rfl _ _ rfl (w.heap.size + 1 + 1) _ _ rfl rfl hR ?_))
   intro w9 hB9 ho9
   go_wp2_with fail
   exact bodyPost_ret (results_blk rfl _ _ (w.heap.size + 1 + 1) _ rfl hB9) rfl ⟨by rw [HYY.out],st.bel.trans (ho9.below (by omega))⟩
theorem results_blk_tmp {fn:Func} {p u:Tmp} (h:fn.results = #[.cell p 32,.tmp u]) (tmps:Array Value) (w:World) (g:Nat) (z:Nat → Int)
  (hp:tmps.getD p undef = .pointer (some ⟨g,0,none⟩)) (hg:Blk w g 32 256 z):(results fn tmps).run Tryz.prog w = .ok (.tuple #[bval z,tmps.getD u undef]) w :=
 results_row_tmp h tmps w g 32 _ (0,0) _ hp hg Tryz.underlying32 rfl (info_block' _)
structure POk (t:Tr) (s:Int) (K:Nat):Prop where
 s:t.s = s
 cb:∀ i,0 ≤ t.cb i ∧ t.cb i < 4294967296
 cd:∀ i,Byt (t.cd i)
 rv:∀ i,0 ≤ t.rv i ∧ t.rv i < 4294967296
 n:t.n ≤ K
 m:t.m ≤ 60 * K
 cb0:∀ i,t.n ≤ i → t.cb i = 0
 rv0:∀ i,t.m ≤ i → t.rv i = 0
theorem POk.ok {t:Tr} {s:Int} {n:Nat} (h:POk t s n) (hs:0 ≤ s ∧ s < 4294967296) (hn:n ≤ 255):t.Ok :=
 ⟨by rw [h.s];exact hs,fun i => by have:=h.cb i;omega,h.cd,fun i => by have:=h.rv i;omega,by have:=h.n;omega,by have:=h.m;omega,h.cb0,h.rv0⟩
theorem POk.zero (s:Int):POk (tr0 s) s 0:=⟨rfl,fun i => ⟨Int.le_refl 0,(by decide:(0:Int) < 4294967296)⟩,fun i => zero_bytJ,fun i => ⟨Int.le_refl 0,(by decide:(0:Int) < 4294967296)⟩,Nat.le_refl _,Nat.le_refl _,fun i _ => rfl,fun i _ => rfl⟩
theorem RRow.take {w:World} {a:Option Addr} {m n:Nat} {f:Nat → List Value} (h:RRow w a m n f) (k:Nat) (hk:k ≤ n):RRow w a m k f:=by
 rcases h with h | ⟨b,off,rfl,h⟩
 ·exact .inl (by omega)
 ·exact .inr ⟨b,off,rfl,fun i hi => h i (by omega)⟩
section
variable {t:Tr} {L:Nat → Nat → Int} {N:Nat}
end
section
variable {L:Nat → Nat → Int} {N:Nat}
end
end Go.Proofs.YtphamecphmbipaaGreatDoor
