/- Texts of this claim, merged. -/
import Derived.Test.YtphamecphmbipaaGreatDoorK29
import Derived.Test.YtphamecphmbipaaGreatDoorK30
namespace Go.Proofs.YtphamecphmbipaaGreatDoor
open Go.RowKit
set_option linter.unusedVariables false
theorem hang_inv {x:Im} (hx:x.Ok) {m:MS} {ys:Nat → Ino} {N:Nat} (h:PlInv x m ys N) {i:Nat} (hi:i < N) (idx:Int) :
  PlInv x (MS.hang x (ys i) idx m).2.2 (updN ys i (MS.hang x (ys i) idx m).2.1) N ∧ (MS.hang x (ys i) idx m).1 ≤ 2048 ∧
  ((MS.hang x (ys i) idx m).1 ≠ 0 → (MS.hang x (ys i) idx m).1 < x.n ∧ ∀ z,Byt z → PlInv x ((MS.hang x (ys i) idx m).2.2.put (MS.hang x (ys i) idx m).1 z) (updN ys i (MS.hang x (ys i) idx m).2.1) N):=by
 obtain ⟨lev,hW,hP⟩:=h
 obtain ⟨h1,h2,h3,h4,h5,h6,h7,h8,h9,h10,h11⟩:=mayN hx.may
 have hn9:=hx.n_le
 obtain ⟨lev',a1,a2,a3,a4⟩:=MS.hang_wf (x:=x) (by omega) (by omega) hW (hP i hi) idx
 have hall:∀ k,k < N → MS.PtI x (MS.hang x (ys i) idx m).2.2 lev' (updN ys i (MS.hang x (ys i) idx m).2.1 k):=fun k hk => by
  unfold updN
  by_cases e:k = i
  ·subst e;rw [if_pos rfl];exact a3
  ·rw [if_neg e];exact (hP k hk).ext a2
 refine ⟨⟨lev',a1,hall⟩,?_,fun h0 => ⟨a4.lt h0,fun z hz => ⟨lev',a1.put0 a4 h0 hz,fun k hk => hall k hk⟩⟩⟩
 by_cases e:(MS.hang x (ys i) idx m).1 = 0
 ·omega
 ·have:=a4.lt e;omega
abbrev slvL (l:List Slt) (k:Nat):List Value:=[.int .u32 ((l.getD k default).1:Nat),.string (l.getD k default).2]
structure SltW (M q Y N sb:Nat) (sa:Nat → Option Addr) (sc:Nat → Nat) (sl:Nat → List Slt) (W:World):Prop where
 c:∀ k,k < N → W.cell? ⟨sb,k,none⟩ = some (.slice (sa k) (sl k).length (sc k))
 r:∀ k,k < N → RRow W (sa k) 2 (sl k).length (slvL (sl k))
 lt:sb < W.heap.size ∧ ¬ MY M q Y sb
 la:∀ k b off,k < N → sa k = some ⟨b,off,none⟩ → b < W.heap.size ∧ ¬ MY M q Y b
theorem SltW.gwS {M q Y N sb:Nat} {sa:Nat → Option Addr} {sc:Nat → Nat} {sl:Nat → List Slt} {W W':World} (h:SltW M q Y N sb sa sc sl W) (k:GwS (MY M q Y) W W'):SltW M q Y N sb sa sc sl W' :=
 ⟨fun i hi => (World.cell?_of_block (w:=W) (a:=⟨sb,i,none⟩) (k.block sb h.lt.1 h.lt.2)).trans (h.c i hi),fun i hi => (h.r i hi).gwS k fun b off e _ => h.la i b off hi e,
  ⟨Nat.lt_of_lt_of_le h.lt.1 k.size,h.lt.2⟩,fun i b off hi e => ⟨Nat.lt_of_lt_of_le (h.la i b off hi e).1 k.size,(h.la i b off hi e).2⟩⟩
theorem OldR.gwS {S:Nat → Prop} {B:Nat} {W W':World} {a:Option Addr} {m n:Nat} {f:Nat → List Value} (h:OldR B W a m n f) (k:GwS S W W') (hB:B ≤ W.heap.size) (hS:∀ j,j < B → ¬ S j):OldR B W' a m n f :=
 ⟨RRow.gwS h.1 k fun b off e hn => ⟨Nat.lt_of_lt_of_le (h.2 b off e hn) hB,hS _ (h.2 b off e hn)⟩,h.2⟩
theorem PlnR.gwS {S:Nat → Prop} {B:Nat} {d:PlAd} {P:PlanD} {W W':World} (h:PlnR B d P W) (k:GwS S W W') (hB:B ≤ W.heap.size) (hS:∀ j,j < B → ¬ S j):PlnR B d P W' :=
 ⟨h.f.gwS k hB hS,fun i hi => (h.b i hi).gwS k hB hS,fun i hi => (h.n i hi).gwS k hB hS,h.c.gwS k hB hS⟩
structure FlS (B M q Y N sb p:Nat) (x:Im) (m:MS) (ys:Nat → Ino) (G S I J:Int) (d:PlAd) (P:PlanD) (sa:Nat → Option Addr) (sc:Nat → Nat) (sl:Nat → List Slt) (w W:World):Prop where
 h:HgS M q Y N x m ys w W
 bx:At W p 27 (plRow G S I J d P)
 r:PlnR B d P W
 s:SltW M q Y N sb sa sc sl W
 np:¬ MY M q Y p
 nb:∀ j,j < B → ¬ MY M q Y j
 lb:B ≤ W.heap.size
section
variable {B M q Y N sb p:Nat} {x:Im} {m m':MS} {ys ys':Nat → Ino} {G S I J:Int} {d:PlAd} {P:PlanD} {sa:Nat → Option Addr} {sc:Nat → Nat} {sl:Nat → List Slt} {w W W':World}
theorem FlS.to (h:FlS B M q Y N sb p x m ys G S I J d P sa sc sl w W) (hs:HgS M q Y N x m' ys' W W'):FlS B M q Y N sb p x m' ys' G S I J d P sa sc sl w W' :=
 ⟨⟨hs.p,hs.y,h.h.gr.trans hs.gr⟩,h.bx.gwS hs.gr h.np,h.r.gwS hs.gr h.lb h.nb,h.s.gwS hs.gr,h.np,h.nb,Nat.le_trans h.lb hs.gr.size⟩
theorem FlS.self (h:FlS B M q Y N sb p x m ys G S I J d P sa sc sl w W):HgS M q Y N x m ys W W:=⟨h.h.p,h.h.y,.refl _ _⟩
theorem FlS.below (h:FlS B M q Y N sb p x m ys G S I J d P sa sc sl w W) (hb:Below W.heap.size W W'):FlS B M q Y N sb p x m ys G S I J d P sa sc sl w W':=h.to (h.self.below hb)
theorem FlS.kind (h:FlS B M q Y N sb p x m ys G S I J d P sa sc sl w W) {i:Nat} (hi:i < N):W.cell? ⟨Y,i * 16,none⟩ = some (.int .u8 (ys i).kind):=by
 have:=h.h.y.seg i hi 0 _ rfl
 rwa [Nat.zero_add,Nat.add_zero] at this
theorem FlS.size (h:FlS B M q Y N sb p x m ys G S I J d P sa sc sl w W) {i:Nat} (hi:i < N):W.cell? ⟨Y,i * 16 + 3,none⟩ = some (.int .i64 (ys i).size):=by
 have:=h.h.y.seg i hi 3 _ rfl
 rwa [Nat.zero_add] at this
theorem HgS.putSize (h:HgS M q Y N x m ys w W) {i:Nat} (hi:i < N) (v:Int):HgS M q Y N x m (updN ys i { ys i with size:=v }) w (W.setCell ⟨Y,i * 16 + 3,none⟩ (.int .i64 v)):=by
 have ho:=Only.setCell W ⟨Y,i * 16 + 3,none⟩ (.int .i64 v)
 obtain ⟨f,hf⟩:=h.p.k
 refine ⟨⟨⟨f,hf.only ho h.neM⟩,h.p.im.only ho h.neq⟩,?_,h.gr.trans (.of_only ho (.inr (.inr rfl)))⟩
 have:=h.y.cellset (k:=i) (j:=3) hi (by omega) (fun j => inF7_len ys j) (.int .i64 v)
 refine this.congr fun j hj => ?_
 unfold inF7 updN
 by_cases e:j = i
 ·subst e;rw [if_pos rfl,if_pos rfl];rfl
 ·rw [if_neg e,if_neg e]
theorem FlS.slot (h:FlS B M q Y N sb p x m ys G S I J d P sa sc sl w W) {i k:Nat} (hi:i < N) (hk:k < (sl i).length):∃ b off,sa i = some ⟨b,off,none⟩ ∧ ∀ W',FlS B M q Y N sb p x m ys G S I J d P sa sc sl w W' → (∀ j v,(slvL (sl i) k)[j]? = some v → W'.cell? ⟨b,off + k * 2 + j,none⟩ = some v):=by
 rcases h.s.r i hi with h0 | ⟨b,off,e,-⟩
 ·omega
 ·refine ⟨b,off,e,fun W' h' j v hv => ?_⟩
  rcases h'.s.r i hi with h0 | ⟨b',off',e',hs⟩
  ·omega
  ·rw [e] at e';cases e'
   exact hs k hk j v hv
end
theorem updN_self {α:Type} (f:Nat → α) (i:Nat):updN f i (f i) = f:=by
 funext k;unfold updN;split
 ·rename_i e;rw [e]
 ·rfl
theorem updN_two {α:Type} (f:Nat → α) (i:Nat) (u v:α):updN (updN f i u) i v = updN f i v:=by
 funext k;unfold updN;split <;> rfl
theorem updN_at {α:Type} (f:Nat → α) (i:Nat) (u:α):updN f i u i = u:=if_pos rfl
set_option maxRecDepth 100000 in
set_option maxHeartbeats 16000000 in
theorem mkFill_any (B M q Y N sb:Nat) (x:Im) (hx:x.Ok) (m:MS) (ys:Nat → Ino) (hI:PlInv x m ys N) (hN:N ≤ 4096) (G S I J:Int) (d:PlAd) (P:PlanD) (hB:P.Bd) (hS:P.Small) (hNP:N ≤ P.nf + 1) (sa:Nat → Option Addr) (sc:Nat → Nat) (sl:Nat → List Slt) (hl:∀ k,k < N → (sl k).length ≤ 4000 ∧ ∀ t,t < (sl k).length → ((sl k).getD t default).1 < 4294967296)
  (w:World) (hs:HgS M q Y N x m ys w w) (hP:PlnR B d P w) (hBw:B ≤ w.heap.size) (hnB:∀ j,j < B → ¬ MY M q Y j) (hSl:SltW M q Y N sb sa sc sl w) (hMY:∀ j,MY M q Y j → j < w.heap.size) :
  Calls Tryz.prog 29 #[.pointer (some ⟨M,0,none⟩),plVal G S I J d P,.slice (some ⟨Y,0,none⟩) N N,.slice (some ⟨sb,0,none⟩) N N] w fun e w' =>
   e = .returned (.tuple #[]) ∧ HgS M q Y N x (P.fill x ⟨ys,sl⟩ m N).m (P.fill x ⟨ys,sl⟩ m N).ino w w' ∧ PlInv x (P.fill x ⟨ys,sl⟩ m N).m (P.fill x ⟨ys,sl⟩ m N).ino N:=by
 have ST0:Hid (FlS B M q Y N sb w.heap.size x m ys G S I J d P sa sc sl w (w.alloc (.cells (plRow G S I J d P) 27))):=by
  have hb:Below w.heap.size w (w.alloc (.cells (plRow G S I J d P) 27)):=(Below.refl _ _).alloc (Nat.le_refl _) _
  have hg:GwS (MY M q Y) w (w.alloc (.cells (plRow G S I J d P) 27)):=.of_below hb
  exact ⟨hs.below hb,At.new _ _ _,hP.gwS hg hBw hnB,hSl.gwS hg,fun e => Nat.lt_irrefl _ (hMY _ e),hnB,Nat.le_trans hBw hb.size⟩
 have HX:=Lib.hid hx
 have HI:=Lib.hid hI
 have HBD:=Lib.hid hB
 have HSM:=Lib.hid hS
 have HL:=Lib.hid hl
 clear hx hI hB hS hl hs hP hSl hMY hnB
 go_enter Tryz.func29,Tryz.ntmps29
 go_wp2_with fail
 go_loopw [8,9,10,11,12] (fun i _ _ _ _ wr => ∃ k:Nat,k ≤ N ∧ i = .int .i64 (k:Int) ∧ PlInv x (P.fill x ⟨ys,sl⟩ m k).m (P.fill x ⟨ys,sl⟩ m k).ino N ∧ FlS B M q Y N sb w.heap.size x (P.fill x ⟨ys,sl⟩ m k).m (P.fill x ⟨ys,sl⟩ m k).ino G S I J d P sa sc sl w wr) (fun i _ _ _ _ _ => N - (intOf i).toNat)
 case atStart => exact ⟨0,Nat.zero_le _,rfl,HI.out,ST0.out⟩
 case round =>
  clear ST0 HI
  obtain ⟨k,hk,rfl,hi,st⟩:=hrel
  by_cases hlt:k < N
  ·have hlt':(k:Int) < (N:Int):=by omega
   obtain ⟨F,hF⟩:∃ F,F = P.fill x ⟨ys,sl⟩ m k:=⟨_,rfl⟩
   have HF1:Hid (P.fill x ⟨ys,sl⟩ m (k + 1) = P.fillF x sl k F):=by rw [hF];rfl
   rw [← hF] at hi st
   have HI:=Lib.hid hi
   have ST:=Lib.hid st
   have hl9:=(HL.out k hlt).1
   obtain ⟨ln,hln⟩:∃ ln,ln = (sl k).length:=⟨_,rfl⟩
   have HLN:=Lib.hid hln
   have ck:=st.kind hlt
   have cs:=st.s.c k hlt
   have c3:=st.size hlt
   have fs:=st.h.y.soft (k * 16 + 3)
   rw [← hln] at hl9 cs
   clear hi st hF hln
   by_cases hkd:(F.ino k).kind = 2
   ·have q1:((F.ino k).kind == 2) = true:=by simp [hkd]
    obtain ⟨y0,hy0⟩:∃ y0:Ino,y0 = { F.ino k with size:=256 * ((((sl k).length + 7) / 8:Nat):Int) }:=⟨_,rfl⟩
    obtain ⟨Ht,hHt⟩:∃ Ht:Nat → PlanD.HS,Ht = fun t => PlanD.itr (PlanD.slotH x (sl k)) t ⟨y0,F.m⟩:=⟨_,rfl⟩
    have HT0:Hid (Ht 0 = ⟨y0,F.m⟩):=by show _ = _;rw [hHt];rfl
    have HTS:Hid (∀ t,Ht (t + 1) = PlanD.slotH x (sl k) t (Ht t)):=fun t => by rw [hHt];rfl
    have HEND:Hid (P.fill x ⟨ys,sl⟩ m (k + 1) = ⟨updN F.ino k (Ht ln).y,(Ht ln).m⟩):=by
     show _ = _
     rw [HF1.out,PlanD.fillF,PlanD.inoH]
     dsimp only
     rw [if_pos hkd,hHt,hy0,HLN.out]
    have HI1:Hid (PlInv x F.m (updN F.ino k y0) N):=by
     obtain ⟨lev,h1,h2⟩:=HI.out
     refine ⟨lev,h1,fun j hj => ?_⟩
     unfold updN
     by_cases e:j = k
     ·subst e;rw [if_pos rfl,hy0];exact h2 j hj
     ·rw [if_neg e];exact h2 j hj
    have ST1:Hid (FlS B M q Y N sb w.heap.size x F.m (updN F.ino k y0) G S I J d P sa sc sl w (wr.setCell ⟨Y,k * 16 + 3,none⟩ (.int .i64 (256 * (((ln:Int) + 7) / 8))))):=by
     have:=ST.out.to (ST.out.self.putSize hlt (256 * (((ln:Int) + 7) / 8)))
     have e:y0 = { F.ino k with size:=256 * (((ln:Int) + 7) / 8) }:=by rw [hy0,← HLN.out];push_cast;rfl
     rw [e];exact this
    clear ST HI HF1 hHt hy0
    go_wp2_with fail
    clear ck cs c3 fs q1 hkd
    go_loopw [9,10] (fun u _ wr => ∃ t:Nat,t ≤ ln ∧ u = .int .i64 (t:Int) ∧ PlInv x (Ht t).m (updN F.ino k (Ht t).y) N ∧ FlS B M q Y N sb w.heap.size x (Ht t).m (updN F.ino k (Ht t).y) G S I J d P sa sc sl w wr) (fun u _ _ => ln - (intOf u).toNat)
    case atStart => exact ⟨0,Nat.zero_le _,rfl,by rw [HT0.out];exact HI1.out,by rw [HT0.out];exact ST1.out⟩
    case round =>
     clear ST1 HI1
     obtain ⟨t,ht,rfl,hi,st⟩:=hrel
     have HI:=Lib.hid hi
     have ST:=Lib.hid st
     have cs:=st.s.c k hlt
     rw [← HLN.out] at cs
     clear hi st
     by_cases hqt:t < ln
     ·have hqt':(t:Int) < (ln:Int):=by omega
      have htl:t < (sl k).length:=by rw [← HLN.out];exact hqt
      obtain ⟨R,hR⟩:∃ R,R = MS.hang x (Ht t).y ((t:Int) / 8) (Ht t).m:=⟨_,rfl⟩
      have HS1:Hid (Ht (t + 1) = ⟨R.2.1,if 0 < R.1 ∧ ((sl k).getD t default).2.size ≤ 27 then R.2.2.put R.1 (putS (R.2.2.L R.1) (t % 8) (bS (((sl k).getD t default).1:Nat) ((sl k).getD t default).2)) else R.2.2⟩):=by
       show _ = _
       rw [HTS.out t,PlanD.slotH,show ((t / 8:Nat):Int) = (t:Int) / 8 from rfl,hR]
      have HV:=Lib.hid (hang_inv HX.out HI.out hlt ((t:Int) / 8))
      have hcall:=fun (W:World) (hW:HgS M q Y N x (Ht t).m (updN F.ino k (Ht t).y) W W) => mkHang_any M q Y N x HX.out (Ht t).m (updN F.ino k (Ht t).y) HI.out k hlt hN ((t:Int) / 8) W hW
      rw [updN_at,← hR,updN_two] at HV hcall
      have HC:=Lib.hid hcall
      obtain ⟨r1,r2,r3⟩:=R
      dsimp only at HV HC HS1
      clear hcall hR HI
      go_wp2_with fail
      refine (HC.out _ ST.out.self).mono ?_
      rintro e w1 ⟨rfl,hs1⟩
      have ST1:=Lib.hid (ST.out.to hs1)
      clear ST hs1 HC cs
      obtain ⟨nm,hnm⟩:∃ nm,nm = ((sl k).getD t default).2:=⟨_,rfl⟩
      obtain ⟨ino,hino⟩:∃ ino,ino = ((sl k).getD t default).1:=⟨_,rfl⟩
      have hin9:ino < 4294967296:=by rw [hino];exact (HL.out k hlt).2 t htl
      rw [← hnm,← hino] at HS1
      obtain ⟨sb1,so1,hsa,hsc⟩:=ST1.out.slot hlt htl
      have HSC:=Lib.hid hsc
      have cs:w1.cell? ⟨sb,k,none⟩ = some (.slice (some ⟨sb1,so1,none⟩) ln (sc k)):=by
       have:=ST1.out.s.c k hlt
       rwa [← HLN.out,hsa] at this
      have cn:w1.cell? ⟨sb1,so1 + t * 2 + 1,none⟩ = some (.string nm):=by rw [hnm];exact hsc _ ST1.out 1 _ rfl
      have HNM:=Lib.hid (And.intro hnm hino)
      have HSA:=Lib.hid hsa
      clear hsa hsc hnm hino htl
      have hr9:=HV.out.2.1
      by_cases hr0:r1 = 0
      ·subst hr0
       have HS2:Hid (Ht (t + 1) = ⟨r2,r3⟩):=by show _ = _;rw [HS1.out,if_neg (by omega)]
       have HI2:=Lib.hid HV.out.1
       go_wp2_with fail
       go_roundw
       case rel => exact ⟨t + 1,by omega,by go_num,by rw [HS2.out];exact HI2.out,by rw [HS2.out];exact ST1.out⟩
       case measure => simp [intOf];omega
      have hrp:0 < r1:=by omega
      have hrp':(0:Int) < (r1:Int):=by omega
      by_cases hn27:nm.size ≤ 27
      ·have hn27':(nm.size:Int) ≤ 27:=by omega
       have t1:decide ((nm.size:Int) ≤ 27) = true:=decide_eq_true hn27'
       have t2:decide (nm.size ≤ 27) = true:=decide_eq_true hn27
       obtain ⟨hrn,hput⟩:=HV.out.2.2 (by omega)
       have hrn':(r1:Int) < (x.n:Int):=by omega
       obtain ⟨Z,hZ⟩:∃ Z,Z = putS (r3.L r1) (t % 8) (bS (ino:Int) nm):=⟨_,rfl⟩
       have HS2:Hid (Ht (t + 1) = ⟨r2,r3.put r1 Z⟩):=by show _ = _;rw [HS1.out,if_pos ⟨hrp,hn27⟩,hZ]
       have HI2:Hid (PlInv x (r3.put r1 Z) (updN F.ino k r2) N):=hput Z (by
        rw [hZ]
        refine byt_over (HV.out.1.byt.1 r1) ?_ _ _
        unfold bS
        split
        ·exact fun _ => ⟨Int.le_refl _,by show (0:Int) < 256;decide⟩
        ·exact byt_mkS _ hn27)
       have HPT:Hid (∀ W,Calls Tryz.prog 65 #[bval (r3.L r1),.int .i64 ((t:Int) % 8),sv (ino:Int) nm] W fun e w' => e = .returned (bval Z) ∧ Below W.heap.size W w'):=fun W => by
        rw [hZ];exact rPut_any (r3.L r1) (t % 8) (by omega) (ino:Int) nm ⟨by omega,by omega⟩ (.inr hn27) W
       clear hput hZ HV
       go_wp2_with fail
       refine wp_region_bar2 (FlS B M q Y N sb w.heap.size x r3 (updN F.ino k r2) G S I J d P sa sc sl w) 23 (by kernel_rfl) (by kernel_rfl) (by kernel_rfl) (by kernel_rfl) (by kernel_rfl) (by decide) (ST1.out.below (Below.refl _ _).drew) ?_
       clear ST1
       simp only [List.take_succ_cons,List.take_zero,List.drop_succ_cons,List.drop_zero]
       intro hne
       have hc0:∀ y:InW (FlS B M q Y N sb w.heap.size x r3 (updN F.ino k r2) G S I J d P sa sc sl w),y.W.cell? ⟨M,0,none⟩ = some (.slice (some ⟨q,0,none⟩) x.n x.n):=fun y => y.h.h.p.c0
       have hcs:∀ y:InW (FlS B M q Y N sb w.heap.size x r3 (updN F.ino k r2) G S I J d P sa sc sl w),y.W.cell? ⟨sb,k,none⟩ = some (.slice (some ⟨sb1,so1,none⟩) ln (sc k)):=fun y => by
        have:=y.h.s.c k hlt
        rwa [← HLN.out,HSA.out] at this
       repeat (first | go_big_quiet_skip | (go_big_quiet_want;go_big_quiet_op;go_big_quiet_on))
       refine q_load rfl 32 (.tmp 77) rfl q (r1 * 256) rfl (bkF r3.L r1) _ (fun W h => by have:=RSeg.range h.h.p.im.seg r1 hrn;rwa [Nat.zero_add] at this) Tryz.underlying32 rfl (by rw [bkF_len];exact info_block) ?_
       refine wpQuiet_frame (by simp only [Act.put,List.setIfInBounds_toArray,List.set_cons_succ,List.set_cons_zero];exact rfl) ?_
       repeat (first | go_big_quiet_skip | (go_big_quiet_want;go_big_quiet_op;go_big_quiet_on))
       refine q_load rfl 90 (.tmp 86) rfl sb1 (so1 + t * 2) rfl [.int .u32 (ino:Int),.string nm] _ (fun W h => by
        have:=HSC.out W h
        rw [HNM.out.1,HNM.out.2]
        exact fun j v hv => this j v hv) Tryz.underlying90 rfl (by kernel_rfl) ?_
       refine wpQuiet_frame (by simp only [Act.put,List.setIfInBounds_toArray,List.set_cons_succ,List.set_cons_zero];exact rfl) ?_
       go_big_quiet_want
       go_big_quiet_op
       refine ⟨_,fun s => q_call s (fun W hW => (HPT.out W).mono fun e w' h => ⟨h.1,hW.below h.2⟩),?_⟩
       go_big_quiet_on
       repeat (first | go_big_quiet_skip | (go_big_quiet_want;go_big_quiet_op;go_big_quiet_on))
       refine wpQuiet_nil ?_
       intro w2 h2'
       have ST2:=Lib.hid h2'.out
       clear h2' hne hc0 hcs
       have hth:w2.there q (r1 * 256) (Ks .u8 256 Z).length:=by rw [Ks_length];exact ST2.out.h.p.im.there hrn
       have hpp:=ST2.out.h.p.put hrn Z
       have ST3:=Lib.hid (ST2.out.to (ST2.out.self.turn hpp.1 (.of_only hpp.2 (.inr rfl))))
       clear ST2 hpp
       go_wp2_with (first | (refine wp_storeMid rfl 32 (.tmp 89) (.tmp 88) rfl q (r1 * 256) (Ks .u8 256 Z) rfl rfl hth (by rw [Ks_length];exact info_block) (Ks_oneL _ _ _) ?_))
       intro w9 hw9
       rw [← hw9.out] at ST3
       clear hw9 hth
       go_wp2_with fail
       go_roundw
       case rel => exact ⟨t + 1,by omega,by go_num,by rw [HS2.out];exact HI2.out,by rw [HS2.out];exact ST3.out⟩
       case measure => simp [intOf];omega
      ·have hn27':¬ (nm.size:Int) ≤ 27:=by omega
       have t1:decide ((nm.size:Int) ≤ 27) = false:=decide_eq_false hn27'
       have t2:decide (nm.size ≤ 27) = false:=decide_eq_false hn27
       have HS2:Hid (Ht (t + 1) = ⟨r2,r3⟩):=by show _ = _;rw [HS1.out,if_neg (by omega)]
       have HI2:=Lib.hid HV.out.1
       go_wp2_with fail
       go_roundw
       case rel => exact ⟨t + 1,by omega,by go_num,by rw [HS2.out];exact HI2.out,by rw [HS2.out];exact ST1.out⟩
       case measure => simp [intOf];omega
     ·obtain rfl:t = ln:=by omega
      go_wp2_with fail
      go_roundw
      case rel => first | exact ⟨k + 1,by omega,by first | rfl | go_num,by rw [HEND.out];exact HI.out,by rw [HEND.out];exact ST.out⟩ | ((repeat apply Exists.intro);refine ⟨?_,rfl⟩;exact ⟨k + 1,by omega,by first | rfl | go_num,by rw [HEND.out];exact HI.out,by rw [HEND.out];exact ST.out⟩)
      case measure => simp [intOf];omega
   ·have q1:((F.ino k).kind == 2) = false:=by simp [hkd]
    obtain ⟨nbk,hnbk⟩:∃ nbk,nbk = if k = 0 then 0 else (P.f (k - 1)).nb:=⟨_,rfl⟩
    obtain ⟨Ht,hHt⟩:∃ Ht:Nat → PlanD.HS,Ht = fun t => PlanD.itr (PlanD.blockH x (P.f (k - 1)).bl) t ⟨F.ino k,F.m⟩:=⟨_,rfl⟩
    have HT0:Hid (Ht 0 = ⟨F.ino k,F.m⟩):=by show _ = _;rw [hHt];rfl
    have HTS:Hid (∀ t,Ht (t + 1) = PlanD.blockH x (P.f (k - 1)).bl t (Ht t)):=fun t => by rw [hHt];rfl
    have HEND:Hid (P.fill x ⟨ys,sl⟩ m (k + 1) = ⟨updN F.ino k (Ht nbk).y,(Ht nbk).m⟩):=by
     show _ = _
     rw [HF1.out,PlanD.fillF,PlanD.inoH]
     dsimp only
     rw [if_neg hkd,hHt,hnbk]
     by_cases e:k = 0
     ·rw [if_pos e,if_pos e];rfl
     ·rw [if_neg e,if_neg e]
    have hnb9:nbk ≤ 1000:=by
     rw [hnbk]
     split
     ·omega
     ·have h1:=HSM.out.cn
      have:∀ n,n ≤ P.nf → k - 1 < n → (P.f (k - 1)).nb ≤ P.cn n:=fun n => by
       induction n with
       | zero => intro _ h;omega
       | succ n ih =>
        intro hn h
        rw [PlanD.cn]
        by_cases e:k - 1 = n
        ·rw [e];omega
        ·have:=ih (by omega) (by omega);omega
      have:=this P.nf (Nat.le_refl _) (by omega)
      omega
    have HNB:=Lib.hid hnbk
    clear HF1 hHt hnbk
    go_wp2_with fail
    clear ck cs c3 fs q1 hkd
    go_loopw [11,12] (fun u _ wr => ∃ t:Nat,t ≤ nbk ∧ u = .int .i64 (t:Int) ∧ PlInv x (Ht t).m (updN F.ino k (Ht t).y) N ∧ FlS B M q Y N sb w.heap.size x (Ht t).m (updN F.ino k (Ht t).y) G S I J d P sa sc sl w wr) (fun u _ _ => nbk - (intOf u).toNat)
    case atStart => exact ⟨0,Nat.zero_le _,rfl,by rw [HT0.out,updN_self];exact HI.out,by rw [HT0.out,updN_self];exact ST.out⟩
    case round =>
     clear ST HI
     obtain ⟨t,ht,rfl,hi,st⟩:=hrel
     have HI:=Lib.hid hi
     have ST:=Lib.hid st
     clear hi st
     by_cases hqt:t < nbk
     ·have hqt':(t:Int) < (nbk:Int):=by omega
      obtain ⟨k',rfl⟩:∃ k',k = k' + 1:=⟨k - 1,by have:=HNB.out;split at this <;> omega⟩
      have hk':k' < P.nf:=by omega
      have HNE:Hid (nbk = (P.f k').nb):=by show _ = _;rw [HNB.out,if_neg (by omega),Nat.add_sub_cancel]
      have c4:wr.cell? ⟨w.heap.size,4,none⟩ = some (.slice d.fa P.nf d.fc):=ST.out.bx.cell (i:=4) rfl
      obtain ⟨fb,fo,hfa,cnb⟩:=ST.out.r.f.cell (j:=2) hk' rfl
      obtain ⟨bb,bo,hba,-⟩:=(ST.out.r.b k' hk').cell (j:=0) (show t < (P.f k').nb by rw [← HNE.out];exact hqt) rfl
      have HC2:Hid (∀ W,FlS B M q Y N sb w.heap.size x (Ht t).m (updN F.ino (k' + 1) (Ht t).y) G S I J d P sa sc sl w W → W.cell? ⟨fb,fo + k' * 6 + 2,none⟩ = some (.slice (some ⟨bb,bo,none⟩) nbk (d.bc k'))):=fun W h => by
       obtain ⟨b,o,e,hc⟩:=h.r.f.cell (j:=2) hk' rfl
       rw [hfa] at e;cases e
       rw [hba,← HNE.out] at hc;exact hc
      have HC4:Hid (∀ W,FlS B M q Y N sb w.heap.size x (Ht t).m (updN F.ino (k' + 1) (Ht t).y) G S I J d P sa sc sl w W → W.cell? ⟨w.heap.size,4,none⟩ = some (.slice (some ⟨fb,fo,none⟩) P.nf d.fc)):=fun W h => by rw [← hfa];exact h.bx.cell (i:=4) rfl
      obtain ⟨bl,hbl⟩:∃ bl,bl = (P.f k').bl t:=⟨_,rfl⟩
      have HCB:Hid (∀ W,FlS B M q Y N sb w.heap.size x (Ht t).m (updN F.ino (k' + 1) (Ht t).y) G S I J d P sa sc sl w W → W.cell? ⟨bb,bo + t,none⟩ = some (.int .i64 bl)):=fun W h => by
       obtain ⟨b,o,e,hc⟩:=(h.r.b k' hk').cell (j:=0) (show t < (P.f k').nb by rw [← HNE.out];exact hqt) rfl
       rw [hba] at e;cases e
       rwa [Nat.mul_one,Nat.add_zero,← hbl] at hc
      clear cnb c4 hfa hba
      have c4:=HC4.out _ ST.out
      have c2:=HC2.out _ ST.out
      have hk'':(k':Int) < (P.nf:Int):=by omega
      have hnf9:=HSM.out.nf
      obtain ⟨R,hR⟩:∃ R,R = MS.hang x (Ht t).y bl (Ht t).m:=⟨_,rfl⟩
      have HS1:Hid (Ht (t + 1) = ⟨R.2.1,if 0 < R.1 then R.2.2.put R.1 (over (R.2.2.L R.1) 0 1 (fun _ => ((t + 1:Nat):Int) % 256)) else R.2.2⟩):=by
       show _ = _
       rw [HTS.out t,PlanD.blockH,Nat.add_sub_cancel,← hbl,hR]
      have HV:=Lib.hid (hang_inv HX.out HI.out hlt bl)
      have hcall:=fun (W:World) (hW:HgS M q Y N x (Ht t).m (updN F.ino (k' + 1) (Ht t).y) W W) => mkHang_any M q Y N x HX.out (Ht t).m (updN F.ino (k' + 1) (Ht t).y) HI.out (k' + 1) hlt hN bl W hW
      rw [updN_at,← hR,updN_two] at HV hcall
      have HC:=Lib.hid hcall
      obtain ⟨r1,r2,r3⟩:=R
      dsimp only at HV HC HS1
      clear hcall hR HI hbl
      go_wp2_with fail
      refine wp_region_bar2 (FlS B M q Y N sb w.heap.size x (Ht t).m (updN F.ino (k' + 1) (Ht t).y) G S I J d P sa sc sl w) 14 (by kernel_rfl) (by kernel_rfl) (by kernel_rfl) (by kernel_rfl) (by kernel_rfl) (by decide) (ST.out.below (Below.refl _ _).drew) ?_
      clear ST c4 c2
      simp only [List.take_succ_cons,List.take_zero,List.drop_succ_cons,List.drop_zero]
      intro hne
      have hc4:∀ y:InW (FlS B M q Y N sb w.heap.size x (Ht t).m (updN F.ino (k' + 1) (Ht t).y) G S I J d P sa sc sl w),y.W.cell? ⟨w.heap.size,4,none⟩ = some (.slice (some ⟨fb,fo,none⟩) P.nf d.fc):=fun y => HC4.out _ y.h
      have hc2:∀ y:InW (FlS B M q Y N sb w.heap.size x (Ht t).m (updN F.ino (k' + 1) (Ht t).y) G S I J d P sa sc sl w),y.W.cell? ⟨fb,fo + k' * 6 + 2,none⟩ = some (.slice (some ⟨bb,bo,none⟩) nbk (d.bc k')):=fun y => HC2.out _ y.h
      have hcb:∀ y:InW (FlS B M q Y N sb w.heap.size x (Ht t).m (updN F.ino (k' + 1) (Ht t).y) G S I J d P sa sc sl w),y.W.cell? ⟨bb,bo + t,none⟩ = some (.int .i64 bl):=fun y => HCB.out _ y.h
      repeat (first | go_big_quiet_skip | (go_big_quiet_want;go_big_quiet_op;go_big_quiet_on))
      refine wpQuiet_nil ?_
      intro w1 h1'
      have ST1:=Lib.hid h1'.out
      clear h1' hne hc4 hc2 hcb
      go_wp2_with fail
      refine (HC.out _ ST1.out.self).mono ?_
      rintro e w2 ⟨rfl,hs2⟩
      have ST2:=Lib.hid (ST1.out.to hs2)
      clear ST1 hs2 HC
      have hr9:=HV.out.2.1
      by_cases hr0:r1 = 0
      ·subst hr0
       have HS2:Hid (Ht (t + 1) = ⟨r2,r3⟩):=by show _ = _;rw [HS1.out,if_neg (by omega)]
       have HI2:=Lib.hid HV.out.1
       go_wp2_with fail
       go_roundw
       case rel => first | exact ⟨t + 1,by omega,by go_num,by rw [HS2.out];exact HI2.out,by rw [HS2.out];exact ST2.out⟩ | ((repeat apply Exists.intro);refine ⟨?_,rfl⟩;exact ⟨t + 1,by omega,by go_num,by rw [HS2.out];exact HI2.out,by rw [HS2.out];exact ST2.out⟩)
       case measure => simp [intOf];omega
      have hrp:0 < r1:=by omega
      have hrp':(0:Int) < (r1:Int):=by omega
      obtain ⟨hrn,hput⟩:=HV.out.2.2 (by omega)
      have hrn':(r1:Int) < (x.n:Int):=by omega
      obtain ⟨Z,hZ⟩:∃ Z,Z = over (r3.L r1) 0 1 (fun _ => ((t + 1:Nat):Int) % 256):=⟨_,rfl⟩
      have HS2:Hid (Ht (t + 1) = ⟨r2,r3.put r1 Z⟩):=by show _ = _;rw [HS1.out,if_pos hrp,hZ]
      have HI2:Hid (PlInv x (r3.put r1 Z) (updN F.ino (k' + 1) r2) N):=hput Z (by
       rw [hZ]
       exact byt_over (HV.out.1.byt.1 r1) (fun _ => ⟨by omega,by omega⟩) _ _)
      have HZ:=Lib.hid hZ
      clear hput hZ HV
      have c0:=ST2.out.h.p.c0
      have fz:=ST2.out.h.p.im.soft (r1 * 256)
      have cz:w2.cell? ⟨q,r1 * 256,none⟩ = some (.int .u8 (r3.L r1 0)):=by
       have:=ST2.out.h.p.seg hrn 0 (by decide)
       rwa [Nat.add_zero] at this
      have hpt:Puts q (r1 * 256 + 0) 1 (fun _ => ((t + 1:Nat):Int) % 256) w2 (w2.setCell ⟨q,r1 * 256,none⟩ (.int .u8 (((t:Int) + 1) % 256))) :=
       (Puts.nil q (r1 * 256 + 0) (fun _ => ((t + 1:Nat):Int) % 256) w2).snoc (u:=.int .u8 (r3.L r1 0)) cz rfl
      have ST3:=Lib.hid (ST2.out.to (ST2.out.self.turn (ST2.out.h.p.puts hrn (by omega) hpt) (.of_only hpt.only (.inr rfl))))
      rw [← HZ.out] at ST3
      clear ST2 hpt HZ
      go_wp2_with fail
      go_roundw
      case rel => first | exact ⟨t + 1,by omega,by go_num,by rw [HS2.out];exact HI2.out,by rw [HS2.out];exact ST3.out⟩ | ((repeat apply Exists.intro);refine ⟨?_,rfl⟩;exact ⟨t + 1,by omega,by go_num,by rw [HS2.out];exact HI2.out,by rw [HS2.out];exact ST3.out⟩)
      case measure => simp [intOf];omega
     ·obtain rfl:t = nbk:=by omega
      by_cases hk0:k = 0
      ·subst hk0
       go_wp2_with fail
       go_roundw
       case rel => first | exact ⟨1,by omega,by first | rfl | go_num,by rw [HEND.out];exact HI.out,by rw [HEND.out];exact ST.out⟩ | ((repeat apply Exists.intro);refine ⟨?_,rfl⟩;exact ⟨1,by omega,by first | rfl | go_num,by rw [HEND.out];exact HI.out,by rw [HEND.out];exact ST.out⟩)
       case measure => simp [intOf];omega
      obtain ⟨k',rfl⟩:∃ k',k = k' + 1:=⟨k - 1,by omega⟩
      have hk':k' < P.nf:=by omega
      have e1:t = (P.f k').nb:=by rw [HNB.out,if_neg (by omega),Nat.add_sub_cancel]
      have c4:wr.cell? ⟨w.heap.size,4,none⟩ = some (.slice d.fa P.nf d.fc):=ST.out.bx.cell (i:=4) rfl
      obtain ⟨fb,fo,hfa,cnb⟩:=ST.out.r.f.cell (j:=2) hk' rfl
      rw [hfa] at c4
      rw [← e1] at cnb
      have hk'':(k':Int) < (P.nf:Int):=by omega
      have hnf9:=HSM.out.nf
      clear hfa e1
      go_wp2_with fail
      go_roundw
      case rel => first | exact ⟨k' + 1 + 1,by omega,by first | rfl | go_num,by rw [HEND.out];exact HI.out,by rw [HEND.out];exact ST.out⟩ | ((repeat apply Exists.intro);refine ⟨?_,rfl⟩;exact ⟨k' + 1 + 1,by omega,by first | rfl | go_num,by rw [HEND.out];exact HI.out,by rw [HEND.out];exact ST.out⟩)
      case measure => simp [intOf];omega
  ·obtain rfl:k = N:=by omega
   have ST:=Lib.hid st
   have HI:=Lib.hid hi
   clear st hi
   go_wp2_with fail
   refine bodyPost_end (results_none rfl _ _ _) rfl ⟨rfl,ST.out.h,HI.out⟩
end Go.Proofs.YtphamecphmbipaaGreatDoor
