/- Texts of this claim, merged. -/
import Derived.Test.YtphamecphmbipaaGreatDoorK23
import Derived.Test.YtphamecphmbipaaGreatDoorK27
set_option maxRecDepth 100000
set_option maxHeartbeats 16000000

namespace Go.Proofs.YtphamecphmbipaaGreatDoor
open Go.RowKit
set_option linter.unusedVariables false
def TreePost (w:World) (p b off cap:Nat) (x:Im) (ds orp sl un:Value) (q:Nat) (m:Nat → Bool) (e:Ending) (w':World):Prop :=
 w.grownBy w' (some p) ∧ ((x.trees m = none ∧ e = .panicked (brk 7)) ∨ ∃ o g,x.trees m = some o ∧ e = .returned (.tuple #[]) ∧ w.heap.size ≤ g ∧
  At w' p 105 (XC b off cap x ds (.slice (some ⟨q,0,none⟩) (x.ni + 1) (x.ni + 1)) orp (.slice (some ⟨g,0,none⟩) x.n x.n) sl un) ∧ RArr w' g 3 1 x.n (ownF o))
def ptL (y:Ino):List Value:=[.int .u32 (y.p 0),.int .u32 (y.p 1),.int .u32 (y.p 2),.int .u32 (y.p 3),.int .u32 (y.p 4),.int .u32 (y.p 5),.int .u32 (y.p 6),.int .u32 (y.p 7),.int .u32 (y.p 8),.int .u32 (y.p 9),.int .u32 (y.p 10)]
theorem CkX.ptrs {w:World} {p b off:Nat} {x:Im} {cs:Array Value} {q:Nat} {W:World} (h:CkX w p b off x cs q W) {t:Nat} (ht:t < x.ni + 1):W.rangeAt q (t * 16 + 4) (ptL (x.ino t)):=fun j v hv => by
 have hj:j < 11:=(List.getElem?_eq_some_iff.1 hv).1
 have:=h.ino ht (4 + j) (v:=v) (by
  have:j = 0 ∨ j = 1 ∨ j = 2 ∨ j = 3 ∨ j = 4 ∨ j = 5 ∨ j = 6 ∨ j = 7 ∨ j = 8 ∨ j = 9 ∨ j = 10:=by omega
  rcases this with rfl | rfl | rfl | rfl | rfl | rfl | rfl | rfl | rfl | rfl | rfl <;> exact hv)
 rwa [← Nat.add_assoc] at this
theorem run_ixPtr (y:Ino) {k:Nat} (hk:k < 11) (W:World):(Instr.index 61 (.agg (ptL y).toArray) (.int .i64 (k:Int))).run Tryz.prog W = .ok (.int .u32 (y.p k)) W :=
 match k,hk with
 | 0,_ => by kernel_rfl
 | 1,_ => by kernel_rfl
 | 2,_ => by kernel_rfl
 | 3,_ => by kernel_rfl
 | 4,_ => by kernel_rfl
 | 5,_ => by kernel_rfl
 | 6,_ => by kernel_rfl
 | 7,_ => by kernel_rfl
 | 8,_ => by kernel_rfl
 | 9,_ => by kernel_rfl
 | 10,_ => by kernel_rfl
theorem ckTrees_any (p b off cap:Nat) (x:Im) (hx:x.Ok) (hM:∀ t,1 ≤ t → t ≤ x.ni → (x.ino t).May) (ds sl un:Value) (q og:Nat) (m:Nat → Bool) (w:World) (hbp:b ≠ p) (hqp:q ≠ p) (hop:og ≠ p) (hob:og ≠ b) (hoq:og ≠ q)
  (h:CkX w p b off x (XC b off cap x ds (.slice (some ⟨q,0,none⟩) (x.ni + 1) (x.ni + 1)) (.slice (some ⟨og,0,none⟩) (x.ni + 1) (x.ni + 1)) (.slice none 0 0) sl un) q w) (ho:RArr w og 3 1 (x.ni + 1) (mkF m)) :
  Calls Tryz.prog 81 #[.pointer (some ⟨p,0,none⟩)] w fun e w' => TreePost w p b off cap x ds (.slice (some ⟨og,0,none⟩) (x.ni + 1) (x.ni + 1)) sl un q m e w':=by
 have HX:=Lib.hid hx
 have hni:x.ni ≤ 256:=gi_bd hx.may
 have hn9:=hx.n_le
 have c0:w.cell? ⟨p,0,none⟩ = some (.slice (some ⟨b,off,none⟩) x.n cap):=h.a.cell (i:=0) rfl
 obtain ⟨g,hg⟩:∃ g,g = w.heap.size:=⟨_,rfl⟩
 have hpg:p ≠ g:=by rw [hg];exact Nat.ne_of_lt h.a.lt
 have hbg:b ≠ g:=by rw [hg];exact Nat.ne_of_lt h.bl
 have hqg:q ≠ g:=by rw [hg];exact Nat.ne_of_lt h.r.lt
 have hmk:(Instr.makeSlice 37 (.int .i64 (x.n:Int)) (.int .i64 (x.n:Int))).run Tryz.prog w = .ok (.slice (some ⟨g,0,none⟩) x.n x.n) (w.alloc (.cells (madeCells #[.int .i64 0] (x.n * 1)) 3)):=by
  rw [hg];exact run_mkints x.n (by omega) w
 obtain ⟨W1,hW1⟩:∃ W1,W1 = w.alloc (.cells (madeCells #[.int .i64 0] (x.n * 1)) 3):=⟨_,rfl⟩
 have hb1:Below w.heap.size w W1:=by rw [hW1];exact (Below.refl _ _).alloc (Nat.le_refl _) _
 have hr1:RArr W1 g 3 1 x.n (ownF fun _ => 0):=by
  rw [hW1,hg];exact (RArr.made (m:=1) w #[.int .i64 0] rfl (by omega) x.n _)
 have h1:=h.below hb1
 have ST1:Hid (CkT w p b off x (XC b off cap x ds (.slice (some ⟨q,0,none⟩) (x.ni + 1) (x.ni + 1)) (.slice (some ⟨og,0,none⟩) (x.ni + 1) (x.ni + 1)) (.slice (some ⟨g,0,none⟩) x.n x.n) sl un) q g (fun _ => 0) (W1.setCell ⟨p,13,none⟩ (.slice (some ⟨g,0,none⟩) x.n x.n))) :=
  ⟨h1.setF 13 _ hbp hqp,hr1.only (Only.setCell W1 ⟨p,13,none⟩ _) (show g ≠ p from fun e => hpg e.symm)⟩
 have c13:W1.cell? ⟨p,13,none⟩ = some (.slice none 0 0):=h1.a.cell (i:=13) rfl
 have f13:W1.frozen? ⟨p,13,none⟩ = false:=soft_of_heap h1.a 13
 have hgw:w.heap.size ≤ g:=by omega
 have HO:Hid (∀ W,w.grownBy W (some p) → RArr W og 3 1 (x.ni + 1) (mkF m)):=fun W hW => ho.grown hW (fun e => by injection e with e;exact hop e)
 rw [← hW1] at hmk
 have HPT:Hid (∀ t en:Nat,t < 100000 → (en:Int) ≤ 9223372036854775807 → ∀ (l:Nat),l ≤ 3 → ∀ (v first:Nat) (o:Nat → Nat) (W:World),v < 4294967296 → first + Im.spn l ≤ 1000000 → CkT w p b off x (XC b off cap x ds (.slice (some ⟨q,0,none⟩) (x.ni + 1) (x.ni + 1)) (.slice (some ⟨og,0,none⟩) (x.ni + 1) (x.ni + 1)) (.slice (some ⟨g,0,none⟩) x.n x.n) sl un) q g o W →
  Calls Tryz.prog 130 #[.pointer (some ⟨p,0,none⟩),.int .i64 (t:Int),.int .u32 (v:Int),.int .i64 (l:Int),.int .i64 (first:Int),.int .i64 (en:Int)] W fun e W' => PtrPost w p b off x (XC b off cap x ds (.slice (some ⟨q,0,none⟩) (x.ni + 1) (x.ni + 1)) (.slice (some ⟨og,0,none⟩) (x.ni + 1) (x.ni + 1)) (.slice (some ⟨g,0,none⟩) x.n x.n) sl un) q g (x.ptrF t l v first en o) e W') :=
  fun t en ht hen l hl v first o W => ckPtr_any p b off cap x hx ds _ sl un q g w hpg hbg hqg hgw t en ht hen l hl v first o W
 obtain ⟨cs,hcs⟩:∃ cs,cs = XC b off cap x ds (.slice (some ⟨q,0,none⟩) (x.ni + 1) (x.ni + 1)) (.slice (some ⟨og,0,none⟩) (x.ni + 1) (x.ni + 1)) (.slice (some ⟨g,0,none⟩) x.n x.n) sl un:=⟨_,rfl⟩
 have HCS:Hid (∀ W,At W p 105 cs → W.cell? ⟨p,11,none⟩ = some (.slice (some ⟨q,0,none⟩) (x.ni + 1) (x.ni + 1)) ∧ W.cell? ⟨p,12,none⟩ = some (.slice (some ⟨og,0,none⟩) (x.ni + 1) (x.ni + 1)) ∧ At W p 105 (XC b off cap x ds (.slice (some ⟨q,0,none⟩) (x.ni + 1) (x.ni + 1)) (.slice (some ⟨og,0,none⟩) (x.ni + 1) (x.ni + 1)) (.slice (some ⟨g,0,none⟩) x.n x.n) sl un)):=fun W h => by
  rw [hcs] at h
  exact ⟨h.cell (i:=11) rfl,h.cell (i:=12) rfl,h⟩
 rw [← hcs] at ST1 HPT
 have HGW:=Lib.hid hgw
 have HM:=Lib.hid hM
 clear h h1 hb1 hr1 hW1 hx hg hgw hcs ho hM
 go_enter Tryz.func81,Tryz.ntmps81
 go_wp2_with fail
 clear c0 hmk c13 f13
 go_loopw [2] (fun u wr => ∃ (k:Nat) (o:Nat → Nat),k ≤ x.ni ∧ u = .int .i64 ((k:Int) + 1) ∧ foldO (fun t o => x.treeF m (t + 1) o) k (fun _ => 0) = some o ∧ CkT w p b off x cs q g o wr) (fun u _ => x.ni + 1 - (intOf u).toNat)
 case atStart => exact ⟨0,fun _ => 0,Nat.zero_le _,rfl,rfl,ST1.out⟩
 case round =>
  clear ST1
  obtain ⟨k,o,hk,rfl,hfo,st⟩:=hrel
  have HFO:=Lib.hid hfo
  have ST:=Lib.hid st
  clear hfo st
  obtain ⟨c11,c12,_⟩:=HCS.out _ ST.out.s.a
  by_cases hlt:k < x.ni
  ·have hlt':(k:Int) + 1 < (x.ni:Int) + 1:=by omega
   have k0:(0:Int) ≤ (k:Int) + 1:=by omega
   have cK:wr.cell? ⟨q,(k + 1) * 16,none⟩ = some (.int .u8 (x.ino (k + 1)).kind):=ST.out.s.ino (t:=k + 1) (by omega) 0 rfl
   have cS:wr.cell? ⟨q,(k + 1) * 16 + 3,none⟩ = some (.int .i64 (x.ino (k + 1)).size):=ST.out.s.ino (t:=k + 1) (by omega) 3 rfl
   have cO:=(HO.out _ ST.out.s.gr).int1 (show k + 1 < x.ni + 1 by omega) (v:=.int .i64 (if m (k + 1) then 1 else 0)) rfl
   have hP:=ST.out.s.ptrs (t:=k + 1) (by omega)
   have hmay:=HM.out (k + 1) (by omega) (by omega)
   have HOK:=Lib.hid (Im.ino_ok HX.out (k + 1))
   obtain ⟨y,hy⟩:∃ y,y = x.ino (k + 1):=⟨_,rfl⟩
   have HY:=Lib.hid hy
   rw [← hy] at cK cS hP hmay HOK
   clear hy
   have hsz:0 ≤ y.size ∧ y.size ≤ 16777216:=by
    rcases hmay with h | h | h <;> omega
   clear hmay
   by_cases hk0:y.kind = 0
   ·have q0:(y.kind == 0) = true:=by simp [hk0]
    have HN:Hid (foldO (fun t o => x.treeF m (t + 1) o) (k + 1) (fun _ => 0) = some o):=foldO_next HFO.out (by show x.treeF m (k + 1) o = some o;unfold Im.treeF;rw [← HY.out,if_pos hk0])
    clear hk0 hP
    go_wp2_with fail
    go_roundw
    case rel => first | exact ⟨k + 1,o,by omega,by first | rfl | go_num,HN.out,ST.out⟩ | ((repeat apply Exists.intro);exact ⟨⟨k + 1,o,by omega,by first | rfl | go_num,HN.out,ST.out⟩,rfl⟩)
    case measure => simp [intOf] <;> omega
   have q0:(y.kind == 0) = false:=by simp [hk0]
   have HTF:Hid (x.treeF m (k + 1) o = foldO (fun q o => x.ptrF (k + 1) (Im.lvl q) (y.p q).toNat (Im.fst q) (x.en m (k + 1)) o) 11 o):=by show _ = _;unfold Im.treeF;rw [← HY.out,if_neg hk0]
   obtain ⟨en,hen⟩:∃ en,en = x.en m (k + 1):=⟨_,rfl⟩
   have HEN:Hid (en = if m (k + 1) then 65536 else (y.size.toNat + 255) / 256):=by show _ = _;rw [hen];unfold Im.en;rw [← HY.out]
   rw [← hen] at HTF
   have hen9:en ≤ 70000:=by rw [HEN.out];split <;> omega
   clear hen hk0
   cases hmt:m (k + 1) with
   | true =>
    rw [hmt,if_pos rfl] at cO
    have he:en = 65536:=by rw [HEN.out,hmt,if_pos rfl]
    clear hmt HEN
    subst he
    go_wp2_with (first | (refine wp_loadMid rfl 61 (.tmp 53) rfl q ((k + 1) * 16 + 4) (ptL y) _ rfl hP Tryz.underlying61 rfl (by kernel_rfl) ?_))
    have HNO:Hid (foldO (fun q o => x.ptrF (k + 1) (Im.lvl q) (y.p q).toNat (Im.fst q) 65536 o) 11 o = none → x.trees m = none):=fun h => foldO_none HFO.out (HTF.out.trans h) hlt
    clear cO cK cS hP q0
    go_loopw [55] (fun u wr => ∃ (j:Nat) (o':Nat → Nat),j ≤ 11 ∧ u = .int .i64 (j:Int) ∧ foldO (fun q o => x.ptrF (k + 1) (Im.lvl q) (y.p q).toNat (Im.fst q) 65536 o) j o = some o' ∧ CkT w p b off x cs q g o' wr) (fun u _ => 11 - (intOf u).toNat)
    case atStart => exact ⟨0,o,Nat.zero_le _,rfl,rfl,ST.out⟩
    case round =>
     clear ST
     obtain ⟨j,o',hj,rfl,hfj,st⟩:=hrel
     have HFJ:=Lib.hid hfj
     have ST:=Lib.hid st
     clear hfj st
     by_cases hj11:j < 11
     ·have hj':(j:Int) < 11:=by omega
      have hix:=fun W => run_ixPtr y hj11 W
      have hpy:=HOK.out.p j
      have hc:=HPT.out (k + 1) 65536 (by omega) (by omega) (Im.lvl j) (lvl_bd hj11) (y.p j).toNat (Im.fst j)
      rw [show ((k + 1:Nat):Int) = (k:Int) + 1 by omega,show (((y.p j).toNat:Nat):Int) = y.p j by omega] at hc
      have HC:=Lib.hid hc
      clear hc
      go_wp2_with fail
      refine (pthLevel_any j (by omega) _).mono ?_
      rintro e w3 ⟨rfl,rfl⟩
      go_wp2_with fail
      refine (pthFirst_any j (by omega) _).mono ?_
      rintro e w4 ⟨rfl,hb4⟩
      have ST4:=Lib.hid (ST.out.below hb4)
      clear ST hb4
      go_wp2_with fail
      refine (HC.out o' _ (by omega) (by have h1:=fstX_step hj11;have h2:=fstX_bd (j + 1);have h3:Im.fst j = fstX j:=fst_fstX (by omega);omega) ST4.out).mono ?_
      rintro e w5 hp
      rcases hp with ⟨hn,rfl,hgr⟩ | ⟨o2,hs,rfl,hst⟩
      ·exact ⟨rfl,hgr,.inl ⟨HNO.out (foldO_none HFJ.out hn hj11),rfl⟩⟩
      have HN:=Lib.hid (foldO_next HFJ.out hs)
      have ST5:=Lib.hid hst
      clear hs hst HC HFJ ST4 hix hpy
      go_wp2_with fail
      go_roundw
      case rel => first | exact ⟨j + 1,o2,by omega,by first | rfl | go_num,HN.out,ST5.out⟩ | ((repeat apply Exists.intro);exact ⟨⟨j + 1,o2,by omega,by first | rfl | go_num,HN.out,ST5.out⟩,rfl⟩)
      case measure => simp [intOf] <;> omega
     ·obtain rfl:j = 11:=by omega
      have HN2:Hid (foldO (fun t o => x.treeF m (t + 1) o) (k + 1) (fun _ => 0) = some o'):=foldO_next HFO.out (HTF.out.trans HFJ.out)
      go_wp2_with fail
      go_roundw
      case rel => first | exact ⟨k + 1,o',by omega,by first | rfl | go_num,HN2.out,ST.out⟩ | ((repeat apply Exists.intro);exact ⟨⟨k + 1,o',by omega,by first | rfl | go_num,HN2.out,ST.out⟩,rfl⟩)
      case measure => simp [intOf] <;> omega
   | false =>
    rw [hmt,if_neg (by decide)] at cO
    have he:en = (y.size.toNat + 255) / 256:=by rw [HEN.out,hmt,if_neg (by decide)]
    have hq:(y.size + 256 - 1).tdiv 256 = (en:Int):=by rw [Int.tdiv_eq_ediv_of_nonneg (by omega)];omega
    clear hmt HEN he
    go_wp2_with (first | (refine wp_loadMid rfl 61 (.tmp 53) rfl q ((k + 1) * 16 + 4) (ptL y) _ rfl hP Tryz.underlying61 rfl (by kernel_rfl) ?_))
    have HNO:Hid (foldO (fun q o => x.ptrF (k + 1) (Im.lvl q) (y.p q).toNat (Im.fst q) en o) 11 o = none → x.trees m = none):=fun h => foldO_none HFO.out (HTF.out.trans h) hlt
    clear cO cK cS hP q0 hq
    go_loopw [55] (fun u wr => ∃ (j:Nat) (o':Nat → Nat),j ≤ 11 ∧ u = .int .i64 (j:Int) ∧ foldO (fun q o => x.ptrF (k + 1) (Im.lvl q) (y.p q).toNat (Im.fst q) en o) j o = some o' ∧ CkT w p b off x cs q g o' wr) (fun u _ => 11 - (intOf u).toNat)
    case atStart => exact ⟨0,o,Nat.zero_le _,rfl,rfl,ST.out⟩
    case round =>
     clear ST
     obtain ⟨j,o',hj,rfl,hfj,st⟩:=hrel
     have HFJ:=Lib.hid hfj
     have ST:=Lib.hid st
     clear hfj st
     by_cases hj11:j < 11
     ·have hj':(j:Int) < 11:=by omega
      have hix:=fun W => run_ixPtr y hj11 W
      have hpy:=HOK.out.p j
      have hc:=HPT.out (k + 1) en (by omega) (by omega) (Im.lvl j) (lvl_bd hj11) (y.p j).toNat (Im.fst j)
      rw [show ((k + 1:Nat):Int) = (k:Int) + 1 by omega,show (((y.p j).toNat:Nat):Int) = y.p j by omega] at hc
      have HC:=Lib.hid hc
      clear hc
      go_wp2_with fail
      refine (pthLevel_any j (by omega) _).mono ?_
      rintro e w3 ⟨rfl,rfl⟩
      go_wp2_with fail
      refine (pthFirst_any j (by omega) _).mono ?_
      rintro e w4 ⟨rfl,hb4⟩
      have ST4:=Lib.hid (ST.out.below hb4)
      clear ST hb4
      go_wp2_with fail
      refine (HC.out o' _ (by omega) (by have h1:=fstX_step hj11;have h2:=fstX_bd (j + 1);have h3:Im.fst j = fstX j:=fst_fstX (by omega);omega) ST4.out).mono ?_
      rintro e w5 hp
      rcases hp with ⟨hn,rfl,hgr⟩ | ⟨o2,hs,rfl,hst⟩
      ·exact ⟨rfl,hgr,.inl ⟨HNO.out (foldO_none HFJ.out hn hj11),rfl⟩⟩
      have HN:=Lib.hid (foldO_next HFJ.out hs)
      have ST5:=Lib.hid hst
      clear hs hst HC HFJ ST4 hix hpy
      go_wp2_with fail
      go_roundw
      case rel => first | exact ⟨j + 1,o2,by omega,by first | rfl | go_num,HN.out,ST5.out⟩ | ((repeat apply Exists.intro);exact ⟨⟨j + 1,o2,by omega,by first | rfl | go_num,HN.out,ST5.out⟩,rfl⟩)
      case measure => simp [intOf] <;> omega
     ·obtain rfl:j = 11:=by omega
      have HN2:Hid (foldO (fun t o => x.treeF m (t + 1) o) (k + 1) (fun _ => 0) = some o'):=foldO_next HFO.out (HTF.out.trans HFJ.out)
      go_wp2_with fail
      go_roundw
      case rel => first | exact ⟨k + 1,o',by omega,by first | rfl | go_num,HN2.out,ST.out⟩ | ((repeat apply Exists.intro);exact ⟨⟨k + 1,o',by omega,by first | rfl | go_num,HN2.out,ST.out⟩,rfl⟩)
      case measure => simp [intOf] <;> omega
  ·obtain rfl:k = x.ni:=by omega
   go_wp2_with fail
   refine bodyPost_end (results_none rfl _ _ _) rfl ⟨ST.out.s.gr,.inr ⟨o,g,HFO.out,rfl,HGW.out,(HCS.out _ ST.out.s.a).2.2,ST.out.o⟩⟩
theorem step_zero (x:Im) (l:List Nat):l.foldl x.step 0 = 0:=by
 induction l with
 | nil => rfl
 | cons a l ih => rw [List.foldl_cons];exact ih
structure FnR (w:World) (p b off:Nat) (x:Im) (cs:Array Value) (q:Nat) (a:Option Addr) (n:Nat) (f:Nat → List Value) (W:World):Prop where
 s:CkX w p b off x cs q W
 r:RRow W a 1 n f
 bel:Below w.heap.size w W
theorem ckFind_any (p b off cap:Nat) (x:Im) (hx:x.Ok) (ds orp own sl un:Value) (q:Nat) (t i:Nat) (ht1:1 ≤ t) (ht:t ≤ x.ni) (hi:i < 65536) (hT:x.Tree t) (w:World) (h:CkX w p b off x (XC b off cap x ds (.slice (some ⟨q,0,none⟩) (x.ni + 1) (x.ni + 1)) orp own sl un) q w) :
  Calls Tryz.prog 158 #[.pointer (some ⟨p,0,none⟩),.int .i64 (t:Int),.int .i64 (i:Int)] w fun e w' => e = .returned (.int .i64 ((x.blk t i:Nat):Int)) ∧ Below w.heap.size w w':=by
 have HX:=Lib.hid hx
 have hn9:=hx.n_le
 have hni:x.ni ≤ 256:=gi_bd hx.may
 obtain ⟨cs,hcs⟩:∃ cs,cs = XC b off cap x ds (.slice (some ⟨q,0,none⟩) (x.ni + 1) (x.ni + 1)) orp own sl un:=⟨_,rfl⟩
 have HCS:Hid (∀ W,At W p 105 cs → W.cell? ⟨p,0,none⟩ = some (.slice (some ⟨b,off,none⟩) x.n cap) ∧ W.cell? ⟨p,11,none⟩ = some (.slice (some ⟨q,0,none⟩) (x.ni + 1) (x.ni + 1))):=fun W h => by
  rw [hcs] at h
  exact ⟨h.cell (i:=0) rfl,h.cell (i:=11) rfl⟩
 rw [← hcs] at h
 have ST0:=Lib.hid h
 have HT:=Lib.hid hT
 have HOK:=Lib.hid (Im.ino_ok hx t)
 have ht':(t:Int) < (x.ni:Int) + 1:=by omega
 clear h hcs hx hT
 go_enter Tryz.func158,Tryz.ntmps158
 go_wp2_with fail
 refine (pthOf_any i hi _).mono ?_
 rintro e w1 ⟨a,c,rfl,hr1,hb1⟩
 have ST1:Hid (FnR w p b off x cs q a (Im.wayB i).length (nmF (Im.wayB i)) w1):=⟨ST0.out.below hb1,hr1,hb1⟩
 clear ST0 hr1 hb1
 have c11:=(HCS.out _ ST1.out.s.a).2
 have hwl:=Im.wayP_lt i
 have hpt:w1.cell? ⟨q,t * 16 + 4 + Im.wayP i,none⟩ = some (.int .u32 ((x.ino t).p (Im.wayP i))):=ST1.out.s.ptrs (by omega) (Im.wayP i) _ (by
  have:Im.wayP i = 0 ∨ Im.wayP i = 1 ∨ Im.wayP i = 2 ∨ Im.wayP i = 3 ∨ Im.wayP i = 4 ∨ Im.wayP i = 5 ∨ Im.wayP i = 6 ∨ Im.wayP i = 7 ∨ Im.wayP i = 8 ∨ Im.wayP i = 9 ∨ Im.wayP i = 10:=by omega
  rcases this with e | e | e | e | e | e | e | e | e | e | e <;> rw [e] <;> rfl)
 have hpb:=HOK.out.p (Im.wayP i)
 have HB:Hid (x.blk t i = (Im.wayB i).foldl x.step ((x.ino t).p (Im.wayP i)).toNat):=rfl
 have HTW:Hid (x.okW (Im.wayB i).length ((x.ino t).p (Im.wayP i)).toNat):=by show _;rw [Im.wayB_len];exact HT.out (Im.wayP i) hwl
 have HLT:=Lib.hid (Im.wayB_lt hi)
 have hwn:(Im.wayB i).length ≤ 3:=by rw [Im.wayB_len];exact lvl_bd hwl
 obtain ⟨W,hW⟩:∃ W,W = Im.wayB i:=⟨_,rfl⟩
 obtain ⟨P,hP⟩:∃ P,P = Im.wayP i:=⟨_,rfl⟩
 obtain ⟨pv,hpv⟩:∃ pv,pv = (x.ino t).p P:=⟨_,rfl⟩
 rw [← hW] at HB HTW HLT ST1 hwn
 rw [← hP] at HB HTW hpt hpb hwl
 rw [← hpv] at HB HTW hpt hpb
 rw [← hW,← hP]
 have hP11:(P:Int) < 11:=by omega
 clear hW hP hpv HOK hi
 obtain ⟨n,hn⟩:∃ n,n = W.length:=⟨_,rfl⟩
 have HN:=Lib.hid hn
 rw [← hn] at ST1 HTW hwn ⊢
 clear hn
 go_wp2_with fail
 clear c11 hpt
 go_loopw [10,36] (fun v u wr => ∃ k:Nat,k ≤ n ∧ v = .int .i64 (((W.take k).foldl x.step pv.toNat:Nat):Int) ∧ u = .int .i64 (k:Int) ∧ FnR w p b off x cs q a n (nmF W) wr) (fun _ u _ => n - (intOf u).toNat)
 case atStart => exact ⟨0,Nat.zero_le _,int_eq (by rw [List.take_zero,List.foldl_nil];omega),rfl,ST1.out⟩
 case round =>
  clear ST1
  obtain ⟨k,hk,rfl,rfl,st⟩:=hrel
  have ST:=Lib.hid st
  clear st
  obtain ⟨v,hv⟩:∃ v,v = (W.take k).foldl x.step pv.toNat:=⟨_,rfl⟩
  have HV:=Lib.hid hv
  rw [← hv]
  have HOKV:Hid (v ≠ 0 → v < x.n):=fun h0 => by
   have:=Im.way_ok HTW.out (W.take k) (by rw [List.length_take,← HN.out];omega) (fun j hj => HLT.out j (List.mem_of_mem_take hj))
   rw [← hv] at this
   exact Im.okW.lt this h0
  clear hv
  by_cases hlt:k < n
  ·have hlt':(k:Int) < (n:Int):=by omega
   have k0:(0:Int) ≤ (k:Int):=by omega
   obtain ⟨b',off',ha,hsg⟩:∃ b' off',a = some ⟨b',off',none⟩ ∧ RSeg wr b' off' 1 n (nmF W):=by
    rcases ST.out.r with h | h
    ·omega
    ·exact h
   subst ha
   obtain ⟨d,hd⟩:∃ d,d = W.getD k 0:=⟨_,rfl⟩
   have cd:wr.cell? ⟨b',off' + k,none⟩ = some (.int .i64 (d:Int)):=by
    have:=hsg k hlt 0 (.int .i64 ((W.getD k 0:Nat):Int)) rfl
    rw [← hd,Nat.mul_one,Nat.add_zero] at this;exact this
   have hdg:W[k]? = some d:=by
    rw [hd,List.getD_eq_getElem?_getD,List.getElem?_eq_getElem (by rw [← HN.out];exact hlt)];rfl
   have hd64:d < 64:=HLT.out d (List.mem_of_getElem? hdg)
   have HNX:Hid ((W.take (k + 1)).foldl x.step pv.toNat = x.step v d):=by
    show _ = _
    rw [List.take_add_one,hdg,List.foldl_append,← HV.out];rfl
   have HFIN:Hid (v = 0 → x.blk t i = 0):=fun h0 => by
    rw [HB.out,← List.take_append_drop k W,List.foldl_append,← HV.out,h0]
    exact step_zero x _
   clear hsg hd hdg
   by_cases hv0:v = 0
   ·subst hv0
    have HF:Hid (x.blk t i = 0):=HFIN.out rfl
    go_wp2_with fail
    go_ret
    exact ⟨by rw [HF.out];rfl,ST.out.bel⟩
   have q0:((v:Int) == 0) = false:=by simp;omega
   have hvn:=HOKV.out hv0
   have hvn':(v:Int) < (x.n:Int):=by omega
   have v0:(0:Int) ≤ (v:Int):=by omega
   have c0:=(HCS.out _ ST.out.s.a).1
   have HSG:Hid (Seg wr b (off + v * 256) 256 (x.L v)):=fun j hj => ST.out.s.i v hvn j _ (by show (Ks .u8 256 (x.L v))[j]? = _;exact Ks_get _ _ _ _ hj)
   have hsl:=fun W => run_blkAll18 b (off + v * 256) W
   have HE4:Hid ((4 * (d:Int)).toNat = 4 * d):=by show _ = _;omega
   have HW:Hid (g32 (x.L v) (4 * d) = ((x.wrd v d:Nat):Int)):=(Im.wrd_int HX.out v d).1.symm
   have hw9:=(Im.wrd_int HX.out v d).2
   have HST:Hid (x.step v d = x.wrd v d):=by show _ = _;unfold Im.step;rw [if_neg hv0]
   clear hv0 hvn
   go_wp2_with fail
   refine (get32_yes b (off + v * 256) 256 256 (4 * (d:Int)) (x.L v) _ (by decide) (by omega) (by omega) HSG.out (HX.out.byt v)).mono ?_
   rintro e w4 ⟨rfl,rfl⟩
   rw [HE4.out,HW.out]
   obtain ⟨vw,hvw⟩:∃ z,z = x.wrd v d:=⟨_,rfl⟩
   have HVW:=Lib.hid hvw
   rw [← hvw] at hw9 ⊢
   have vw0:(0:Int) ≤ (vw:Int):=by omega
   have vw9:(vw:Int) < 4294967296:=by omega
   clear hvw c0 hsl HE4 HW HSG
   go_wp2_with fail
   go_roundw
   case rel => first | exact ⟨k + 1,by omega,by rw [HNX.out,HST.out,← HVW.out],by first | rfl | go_num,ST.out⟩ | ((repeat apply Exists.intro);exact ⟨⟨k + 1,by omega,by rw [HNX.out,HST.out,← HVW.out],by first | rfl | go_num,ST.out⟩,rfl⟩)
   case measure => simp [intOf] <;> omega
  ·obtain rfl:k = n:=by omega
   have HF:Hid (x.blk t i = v):=by show _ = _;rw [HB.out,HV.out,HN.out,List.take_length]
   go_wp2_with fail
   go_ret
   exact ⟨by rw [HF.out];rfl,ST.out.bel⟩
structure CkV (w:World) (p b off:Nat) (x:Im) (cs:Array Value) (q g:Nat) (o:Nat → Nat) (W:World):Prop where
 t:CkT w p b off x cs q g o W
 bel:Below w.heap.size w W
theorem CkV.below {w:World} {p b off:Nat} {x:Im} {cs:Array Value} {q g:Nat} {o:Nat → Nat} {W W':World} (h:CkV w p b off x cs q g o W) (hb:Below W.heap.size W W'):CkV w p b off x cs q g o W':=⟨h.t.below hb,h.bel.trans (hb.mono h.bel.size)⟩
theorem ckBlocks_any (p b off cap:Nat) (x:Im) (hx:x.Ok) (ds ino orp sl un:Value) (q g:Nat) (o:Nat → Nat) (w:World) (h:CkT w p b off x (XC b off cap x ds ino orp (.slice (some ⟨g,0,none⟩) x.n x.n) sl un) q g o w) :
  Calls Tryz.prog 82 #[.pointer (some ⟨p,0,none⟩)] w fun e w' => Said (allB (x.ck8 o) x.g) 8 e ∧ Below w.heap.size w w':=by
 have HX:=Lib.hid hx
 obtain ⟨h1,h2,h3,h4,h5,h6,h7,h8,h9,h10,h11⟩:=mayN hx.may
 have hn9:=hx.n_le
 obtain ⟨cs,hcs⟩:∃ cs,cs = XC b off cap x ds ino orp (.slice (some ⟨g,0,none⟩) x.n x.n) sl un:=⟨_,rfl⟩
 have HCS:Hid (∀ W,At W p 105 cs → W.cell? ⟨p,0,none⟩ = some (.slice (some ⟨b,off,none⟩) x.n cap) ∧ W.cell? ⟨p,13,none⟩ = some (.slice (some ⟨g,0,none⟩) x.n x.n) ∧ W.cell? ⟨p,7,none⟩ = some (.int .i64 (x.s:Int)) ∧ W.cell? ⟨p,6,none⟩ = some (.int .i64 (x.g:Int)) ∧ XG p x.g x.s x.i x.j W):=fun W h => by
  rw [hcs] at h
  exact ⟨h.cell (i:=0) rfl,h.cell (i:=13) rfl,h.cell (i:=7) rfl,h.cell (i:=6) rfl,XG.of h⟩
 rw [← hcs] at h
 have ST0:Hid (CkV w p b off x cs q g o w):=⟨h,Below.refl _ _⟩
 have c6:=(HCS.out _ h.s.a).2.2.2.1
 clear h hcs hx
 go_enter Tryz.func82,Tryz.ntmps82
 go_wp2_with fail
 clear c6
 go_loopw [10] (fun u wr => ∃ k:Nat,k ≤ x.g ∧ u = .int .i64 (k:Int) ∧ (∀ γ,γ < k → x.ck8 o γ = true) ∧ CkV w p b off x cs q g o wr) (fun u _ => x.g - (intOf u).toNat)
 case atStart => exact ⟨0,Nat.zero_le _,rfl,fun q h => by omega,ST0.out⟩
 case round =>
  clear ST0
  obtain ⟨k,hk,rfl,hP,st⟩:=hrel
  have HPP:=Lib.hid hP
  have ST:=Lib.hid st
  clear hP st
  by_cases hlt:k < x.g
  ·have hlt':(k:Int) < (x.g:Int):=by omega
   have HNO:Hid (x.ck8 o k = false → Said (allB (x.ck8 o) x.g) 8 (.panicked (brk 8))):=fun h => .inr ⟨allB_no hlt h,rfl⟩
   have HAL:Hid (x.ck8 o k = true → ∀ γ,γ < k + 1 → x.ck8 o γ = true):=fun hc γ hγ => by
    rcases Nat.lt_succ_iff_lt_or_eq.1 hγ with h | h
    ·exact HPP.out γ h
    ·rw [h];exact hc
   go_wp2_with fail
   refine (ckStart_any p x.g x.s x.i x.j k HX.out.may hlt wr (HCS.out _ ST.out.t.s.a).2.2.2.2).mono ?_
   rintro e w1 ⟨rfl,hb1⟩
   have ST1:=Lib.hid (ST.out.below hb1)
   clear ST hb1
   have HQ:Hid (2 + x.j + k * x.s = x.st k):=rfl
   rw [HQ.out]
   obtain ⟨Q,hQ⟩:∃ Q,Q = x.st k:=⟨_,rfl⟩
   have HQQ:=Lib.hid hQ
   have hQn:∀ d,d < x.s → Q + d < x.n:=fun d hd => by rw [hQ];exact HX.out.st hlt hd
   have HQN:=Lib.hid hQn
   rw [← hQ]
   clear hQ HQ hQn
   go_wp2_with fail
   refine (ckOwn_any p x.g x.s x.i x.j h6 w1 (HCS.out _ ST1.out.t.s.a).2.2.2.2).mono ?_
   rintro e w2 ⟨rfl,rfl⟩
   obtain ⟨ow,how⟩:∃ z,z = 2 + x.i / 4:=⟨_,rfl⟩
   have HOW:Hid (x.own = ow):=how.symm
   have how9:ow ≤ x.s:=by omega
   rw [← how]
   clear how
   go_wp2_with fail
   go_loopw [4] (fun u wr => ∃ d:Nat,d ≤ x.s - ow ∧ u = .int .i64 ((ow + d:Nat):Int) ∧ (∀ c,c < d → (bt (x.L Q) (ow + c) == (o (Q + (ow + c)) != 0)) = true) ∧ CkV w p b off x cs q g o wr) (fun u _ => x.s - (intOf u).toNat)
   case atStart => exact ⟨0,Nat.zero_le _,rfl,fun q h => by omega,ST1.out⟩
   case round =>
    clear ST1
    obtain ⟨d,hd,rfl,hP,st⟩:=hrel
    have HP2:=Lib.hid hP
    have ST:=Lib.hid st
    clear hP st
    obtain ⟨c0,c13,c7,_,_⟩:=HCS.out _ ST.out.t.s.a
    obtain ⟨I,hI⟩:∃ I,I = ow + d:=⟨_,rfl⟩
    have HI:=Lib.hid hI
    have hI9:I ≤ x.s:=by omega
    rw [← hI]
    clear hI c0 c13
    by_cases hlt2:I < x.s
    ·have hlt2':(I:Int) < (x.s:Int):=by omega
     have hQI:=HQN.out I hlt2
     have hQ0:=HQN.out 0 (by omega)
     rw [Nat.add_zero] at hQ0
     obtain ⟨J,hJ⟩:∃ J,J = Q + I:=⟨_,rfl⟩
     have hJi:(Q:Int) + (I:Int) = (J:Int):=by omega
     have hJn:J < x.n:=by omega
     have hJn':(J:Int) < (x.n:Int):=by omega
     have hQn':(Q:Int) < (x.n:Int):=by omega
     have HJ:=Lib.hid hJ
     have HJI:=Lib.hid hJi
     obtain ⟨ov,hov⟩:∃ z:Int,z = ((o J:Nat):Int):=⟨_,rfl⟩
     have HOV:=Lib.hid hov
     clear hJ hQI hJi hov
     go_wp2_with fail
     have hJi:=HJI.out
     refine wp_region_bar2 (CkV w p b off x cs q g o) 20 (by kernel_rfl) (by kernel_rfl) (by kernel_rfl) (by kernel_rfl) (by kernel_rfl) (by decide) (ST.out.below (Below.refl _ _).drew) ?_
     clear ST
     simp only [List.take_succ_cons,List.take_zero,List.drop_succ_cons,List.drop_zero]
     intro hne
     have hc0:∀ z:InW (CkV w p b off x cs q g o),z.W.cell? ⟨p,0,none⟩ = some (.slice (some ⟨b,off,none⟩) x.n cap):=fun z => (HCS.out _ z.h.t.s.a).1
     have hc13:∀ z:InW (CkV w p b off x cs q g o),z.W.cell? ⟨p,13,none⟩ = some (.slice (some ⟨g,0,none⟩) x.n x.n):=fun z => (HCS.out _ z.h.t.s.a).2.1
     have hco:∀ z:InW (CkV w p b off x cs q g o),z.W.cell? ⟨g,J,none⟩ = some (.int .i64 ov):=fun z => z.h.t.o.int1 hJn (by rw [HOV.out];rfl)
     first | go_big_quiet_skip | (go_big_quiet_want;go_big_quiet_op;go_big_quiet_on)
     first | go_big_quiet_skip | (go_big_quiet_want;go_big_quiet_op;go_big_quiet_on)
     first | go_big_quiet_skip | (go_big_quiet_want;go_big_quiet_op;go_big_quiet_on)
     first | go_big_quiet_skip | (go_big_quiet_want;go_big_quiet_op;go_big_quiet_on)
     first | go_big_quiet_skip | (go_big_quiet_want;go_big_quiet_op;go_big_quiet_on)
     first | go_big_quiet_skip | (go_big_quiet_want;go_big_quiet_op;go_big_quiet_on)
     refine q_load rfl 32 (.tmp 32) rfl b (off + Q * 256) rfl (bkF x.L Q) _ (fun W h => RSeg.range h.t.s.i Q hQ0) Tryz.underlying32 rfl (by rw [bkF_len];exact info_block) ?_
     refine wpQuiet_frame (by simp only [Act.put,List.setIfInBounds_toArray,List.set_cons_succ,List.set_cons_zero];exact rfl) ?_
     first | go_big_quiet_skip | (go_big_quiet_want;go_big_quiet_op;go_big_quiet_on)
     go_big_quiet_want
     go_big_quiet_op
     refine ⟨_,fun s => q_call s (fun W hW => (bitHas_z (HX.out.byt Q) _ I rfl (by omega) W).mono fun e w' h => ⟨h.1,hW.below h.2⟩),?_⟩
     go_big_quiet_on
     first | go_big_quiet_skip | (go_big_quiet_want;go_big_quiet_op;go_big_quiet_on)
     first | go_big_quiet_skip | (go_big_quiet_want;go_big_quiet_op;go_big_quiet_on)
     first | go_big_quiet_skip | (go_big_quiet_want;go_big_quiet_op;go_big_quiet_on)
     first | go_big_quiet_skip | (go_big_quiet_want;go_big_quiet_op;go_big_quiet_on)
     first | go_big_quiet_skip | (go_big_quiet_want;go_big_quiet_op;go_big_quiet_on)
     first | go_big_quiet_skip | (go_big_quiet_want;go_big_quiet_op;go_big_quiet_on)
     first | go_big_quiet_skip | (go_big_quiet_want;go_big_quiet_op;go_big_quiet_on)
     first | go_big_quiet_skip | (go_big_quiet_want;go_big_quiet_op;go_big_quiet_on)
     first | go_big_quiet_skip | (go_big_quiet_want;go_big_quiet_op;go_big_quiet_on)
     first | go_big_quiet_skip | (go_big_quiet_want;go_big_quiet_op;go_big_quiet_on)
     first | go_big_quiet_skip | (go_big_quiet_want;go_big_quiet_op;go_big_quiet_on)
     refine wpQuiet_nil ?_
     intro w6 h6'
     have ST6:=Lib.hid h6'.out
     clear h6' hne hc0 hc13 hco hJi
     obtain ⟨c,hcc⟩:∃ c,c = (bt (x.L Q) I == (ov != 0)):=⟨_,rfl⟩
     have HCK:Hid ((bt (x.L Q) (ow + d) == (o (Q + (ow + d)) != 0)) = c):=by
      show _ = _
      rw [hcc,← HI.out,← HJ.out,HOV.out]
      congr 1
      cases o J with
      | zero => rfl
      | succ n => simp;omega
     rw [← hcc]
     clear hcc
     go_wp2_with fail
     refine (must_any 8 c _).mono ?_
     rintro e w7 ⟨hS,rfl⟩
     rcases hS with ⟨rfl,rfl⟩ | ⟨rfl,rfl⟩
     rotate_left
     ·refine ⟨rfl,HNO.out ?_,ST6.out.bel⟩
      have:=HCK.out
      unfold Im.ck8
      refine allB_no (j:=d) (by rw [HOW.out];have:=HI.out;omega) ?_
      rw [HOW.out,← HQQ.out];exact this
     have HP3:Hid (∀ c,c < d + 1 → (bt (x.L Q) (ow + c) == (o (Q + (ow + c)) != 0)) = true):=fun c hc => by
      rcases Nat.lt_succ_iff_lt_or_eq.1 hc with h | h
      ·exact HP2.out c h
      ·rw [h];exact HCK.out
     clear HCK HP2
     go_wp2_with fail
     go_roundw
     case rel => first | exact ⟨d + 1,by have:=HI.out;omega,int_eq (by have:=HI.out;omega),HP3.out,ST6.out⟩ | ((repeat apply Exists.intro);exact ⟨⟨d + 1,by have:=HI.out;omega,int_eq (by have:=HI.out;omega),HP3.out,ST6.out⟩,rfl⟩)
     case measure => simp [intOf] <;> omega
    ·obtain rfl:I = x.s:=by omega
     have HOK:Hid (x.ck8 o k = true):=by
      show _ = _
      unfold Im.ck8
      rw [allB_iff]
      intro c hc
      rw [HOW.out,← HQQ.out]
      rw [HOW.out] at hc
      exact HP2.out c (by have:=HI.out;omega)
     go_wp2_with fail
     go_roundw
     case rel => first | exact ⟨k + 1,by omega,by first | rfl | go_num,HAL.out HOK.out,ST.out⟩ | ((repeat apply Exists.intro);exact ⟨⟨k + 1,by omega,by first | rfl | go_num,HAL.out HOK.out,ST.out⟩,rfl⟩)
     case measure => simp [intOf] <;> omega
  ·obtain rfl:k = x.g:=by omega
   go_wp2_with fail
   refine bodyPost_end (results_none rfl _ _ _) rfl ⟨.inl ⟨(allB_iff _ _).2 HPP.out,rfl⟩,ST.out.bel⟩
end Go.Proofs.YtphamecphmbipaaGreatDoor
