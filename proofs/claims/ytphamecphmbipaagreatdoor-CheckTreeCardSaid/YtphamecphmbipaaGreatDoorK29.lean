/- Texts of this claim, merged. -/
import Derived.Test.YtphamecphmbipaaGreatDoorK28
set_option maxRecDepth 100000
set_option maxHeartbeats 16000000

namespace Go.Proofs.YtphamecphmbipaaGreatDoor
open Go.RowKit
set_option linter.unusedVariables false
structure PlAd where
 fa:Option Addr
 fc:Nat
 ca:Option Addr
 cc:Nat
 ba:Nat → Option Addr
 bc:Nat → Nat
 na:Nat → Option Addr
 nc:Nat → Nat
def flR (d:PlAd) (P:PlanD) (i:Nat):List Value:=[.int .u8 (P.f i).kind,.int .i64 (P.f i).size,.slice (d.ba i) (P.f i).nb (d.bc i),.slice (d.na i) (P.f i).nn (d.nc i),.bool (P.f i).orp,.int .i64 (P.f i).links]
def blR (f:PF) (k:Nat):List Value:=[.int .i64 (f.bl k)]
def nmR (f:PF) (k:Nat):List Value:=[.int .i64 (f.dir k),.string (f.nm k)]
def cgR (P:PlanD) (k:Nat):List Value:=[.int .i64 (P.cb k),.int .i64 (P.ca k),.int .u8 (P.co k)]
abbrev plRow (G S I J:Int) (d:PlAd) (P:PlanD):Array Value:=#[.int .i64 G,.int .i64 S,.int .i64 I,.int .i64 J,.slice d.fa P.nf d.fc,.slice d.ca P.nc d.cc,.bool P.sums]
abbrev plVal (G S I J:Int) (d:PlAd) (P:PlanD):Value:=.agg (plRow G S I J d P)
def OldR (B:Nat) (W:World) (a:Option Addr) (m n:Nat) (f:Nat → List Value):Prop:=RRow W a m n f ∧ ∀ b off,a = some ⟨b,off,none⟩ → 0 < n → b < B
theorem OldR.below {B:Nat} {W W':World} {a:Option Addr} {m n:Nat} {f:Nat → List Value} (h:OldR B W a m n f) (hb:Below B W W'):OldR B W' a m n f:=by
 refine ⟨?_,h.2⟩
 rcases h.1 with h1 | ⟨b,off,e,hs⟩
 ·exact .inl h1
 ·by_cases hn:n = 0
  ·exact .inl hn
  ·exact .inr ⟨b,off,e,RSeg.below hs hb (h.2 b off e (by omega))⟩
theorem OldR.cell {B:Nat} {W:World} {a:Option Addr} {m n:Nat} {f:Nat → List Value} (h:OldR B W a m n f) {i j:Nat} (hi:i < n) {v:Value} (hv:(f i)[j]? = some v):∃ b off,a = some ⟨b,off,none⟩ ∧ W.cell? ⟨b,off + i * m + j,none⟩ = some v:=by
 rcases h.1 with h1 | ⟨b,off,e,hs⟩
 ·omega
 ·exact ⟨b,off,e,hs i hi j v hv⟩
structure PlnR (B:Nat) (d:PlAd) (P:PlanD) (W:World):Prop where
 f:OldR B W d.fa 6 P.nf (flR d P)
 b:∀ i,i < P.nf → OldR B W (d.ba i) 1 (P.f i).nb (blR (P.f i))
 n:∀ i,i < P.nf → OldR B W (d.na i) 2 (P.f i).nn (nmR (P.f i))
 c:OldR B W d.ca 3 P.nc (cgR P)
theorem PlnR.below {B:Nat} {d:PlAd} {P:PlanD} {W W':World} (h:PlnR B d P W) (hb:Below B W W'):PlnR B d P W' :=
 ⟨h.f.below hb,fun i hi => (h.b i hi).below hb,fun i hi => (h.n i hi).below hb,h.c.below hb⟩
def PlanD.cn (P:PlanD):Nat → Nat
 | 0 => 0
 | k + 1 => P.cn k + ((P.f k).nb + (P.f k).nn)
structure PlanD.Small (P:PlanD):Prop where
 nf:P.nf ≤ 300
 nc:P.nc ≤ 100
 cn:P.cn P.nf ≤ 1000
 nm:∀ i,i < P.nf → ∀ k,k < (P.f i).nn → ((P.f i).nm k).size ≤ 1000
structure PlanD.Bd (P:PlanD):Prop where
 nf:(P.nf:Int) ≤ 9223372036854775807
 nc:(P.nc:Int) ≤ 9223372036854775807
 nb:∀ i,((P.f i).nb:Int) ≤ 9223372036854775807
 nn:∀ i,((P.f i).nn:Int) ≤ 9223372036854775807
 nm:∀ i k,(((P.f i).nm k).size:Int) ≤ 9223372036854775807
 kind:∀ i,0 ≤ (P.f i).kind ∧ (P.f i).kind < 256
 size:∀ i,-9223372036854775808 ≤ (P.f i).size ∧ (P.f i).size ≤ 9223372036854775807
 links:∀ i,-9223372036854775808 ≤ (P.f i).links ∧ (P.f i).links ≤ 9223372036854775807
 bl:∀ i k,-9223372036854775808 ≤ (P.f i).bl k ∧ (P.f i).bl k ≤ 9223372036854775807
 dir:∀ i k,-9223372036854775808 ≤ (P.f i).dir k ∧ (P.f i).dir k ≤ 9223372036854775807
 cb:∀ k,-9223372036854775808 ≤ P.cb k ∧ P.cb k ≤ 9223372036854775807
 ca:∀ k,-9223372036854775808 ≤ P.ca k ∧ P.ca k ≤ 9223372036854775807
 co:∀ k,0 ≤ P.co k ∧ P.co k < 256
def GtQ (P:PlanD) (e:Ending):Prop:=∃ b,e = .returned (.bool b) ∧ (b = false → P.Small)
structure GtS (w:World) (G S I J:Int) (d:PlAd) (P:PlanD) (W:World):Prop where
 p:At W w.heap.size 27 (plRow G S I J d P)
 r:PlnR w.heap.size d P W
 bel:Below w.heap.size w W
theorem GtS.below {w:World} {G S I J:Int} {d:PlAd} {P:PlanD} {W W':World} (h:GtS w G S I J d P W) (hb:Below W.heap.size W W'):GtS w G S I J d P W' :=
 ⟨h.p.below hb h.p.lt,h.r.below (hb.mono h.bel.size),h.bel.trans (hb.mono h.bel.size)⟩
theorem great_any20 (G S I J:Int) (d:PlAd) (P:PlanD) (hB:P.Bd) (w:World) (hP:PlnR w.heap.size d P w) :
  Calls Tryz.prog 8 #[plVal G S I J d P] w fun e w' => GtQ P e ∧ Below w.heap.size w w':=by
 have hb0:Below w.heap.size w (w.alloc (.cells (plRow G S I J d P) 27)):=(Below.refl _ _).alloc (Nat.le_refl _) _
 have ST0:Hid (GtS w G S I J d P (w.alloc (.cells (plRow G S I J d P) 27))):=⟨At.new _ _ _,hP.below hb0,hb0⟩
 have HBD:=Lib.hid hB
 obtain ⟨n1,hn1⟩:∃ n1,n1 = P.nf:=⟨_,rfl⟩
 have c4:(w.alloc (.cells (plRow G S I J d P) 27)).cell? ⟨w.heap.size,4,none⟩ = some (.slice d.fa P.nf d.fc):=ST0.out.p.cell (i:=4) rfl
 have c5:(w.alloc (.cells (plRow G S I J d P) 27)).cell? ⟨w.heap.size,5,none⟩ = some (.slice d.ca P.nc d.cc):=ST0.out.p.cell (i:=5) rfl
 have hnf9:=hB.nf
 have hnc9:=hB.nc
 clear hP hb0 hB hn1
 go_enter Tryz.func8,Tryz.ntmps8
 by_cases h300:300 < P.nf
 ·have q0:decide ((300:Int) < (P.nf:Int)) = true:=decide_eq_true (by omega)
  have q0':decide (300 < P.nf) = true:=decide_eq_true h300
  go_wp2_with fail
  go_ret
  exact ⟨⟨true,rfl,fun e => by cases e⟩,ST0.out.bel⟩
 have q0:decide ((300:Int) < (P.nf:Int)) = false:=decide_eq_false (by omega)
 have q0':decide (300 < P.nf) = false:=decide_eq_false h300
 by_cases h100:100 < P.nc
 ·have q1:decide ((100:Int) < (P.nc:Int)) = true:=decide_eq_true (by omega)
  have q1':decide (100 < P.nc) = true:=decide_eq_true h100
  go_wp2_with fail
  go_ret
  exact ⟨⟨true,rfl,fun e => by cases e⟩,ST0.out.bel⟩
 have q1:decide ((100:Int) < (P.nc:Int)) = false:=decide_eq_false (by omega)
 have q1':decide (100 < P.nc) = false:=decide_eq_false h100
 go_wp2_with fail
 clear c4 c5
 go_loopw [3,4,5] (fun l i _ wr => ∃ k lv:Nat,k ≤ P.nf ∧ i = .int .i64 (k:Int) ∧ l = .int .i64 (lv:Int) ∧ lv + P.cn k = 1000 ∧ (∀ t,t < k → ∀ s,s < (P.f t).nn → ((P.f t).nm s).size ≤ 1000) ∧ GtS w G S I J d P wr) (fun _ i _ _ => P.nf - (intOf i).toNat)
 case atStart => exact ⟨0,1000,Nat.zero_le _,rfl,rfl,rfl,fun t ht => absurd ht (Nat.not_lt_zero _),ST0.out⟩
 case round =>
  clear ST0
  obtain ⟨k,lv,hk,rfl,rfl,hcn,hnm,st⟩:=hrel
  have ST:=Lib.hid st
  have HCN:=Lib.hid hcn
  have hlv:lv ≤ 1000:=by omega
  have HNM:=Lib.hid hnm
  have c4':wr.cell? ⟨w.heap.size,4,none⟩ = some (.slice d.fa P.nf d.fc):=st.p.cell (i:=4) rfl
  clear st hcn hnm
  by_cases hlt:k < P.nf
  ·have hlt':(k:Int) < (P.nf:Int):=by omega
   clear c4'
   obtain ⟨fb,fo,hfa,-⟩:=ST.out.r.f.cell (j:=0) hlt rfl
   have HC2:Hid (∀ W,GtS w G S I J d P W → W.cell? ⟨fb,fo + k * 6 + 2,none⟩ = some (.slice (d.ba k) (P.f k).nb (d.bc k))):=fun W h => by
    obtain ⟨b,o,e,hc⟩:=h.r.f.cell (j:=2) hlt rfl
    rw [hfa] at e;cases e;exact hc
   have HC3:Hid (∀ W,GtS w G S I J d P W → W.cell? ⟨fb,fo + k * 6 + 3,none⟩ = some (.slice (d.na k) (P.f k).nn (d.nc k))):=fun W h => by
    obtain ⟨b,o,e,hc⟩:=h.r.f.cell (j:=3) hlt rfl
    rw [hfa] at e;cases e;exact hc
   have HC4:Hid (∀ W,GtS w G S I J d P W → W.cell? ⟨w.heap.size,4,none⟩ = some (.slice (some ⟨fb,fo,none⟩) P.nf d.fc)):=fun W h => by rw [← hfa];exact h.p.cell (i:=4) rfl
   clear hfa
   have c4:=HC4.out _ ST.out
   have hb9:=HBD.out.nb k
   have hn9:=HBD.out.nn k
   have HCN1:Hid (P.cn (k + 1) = P.cn k + ((P.f k).nb + (P.f k).nn)):=rfl
   obtain ⟨nb,hnb⟩:∃ nb,nb = (P.f k).nb:=⟨_,rfl⟩
   obtain ⟨nn,hnn⟩:∃ nn,nn = (P.f k).nn:=⟨_,rfl⟩
   have HNN:=Lib.hid hnn
   rw [← hnb] at HC2 HCN1 hb9
   rw [← hnn] at HC3 HCN1 hn9
   clear hnb hnn
   go_wp2_with fail
   by_cases hbig:lv < nb
   ·have t1:decide ((lv:Int) < (nb:Int)) = true:=decide_eq_true (by omega)
    have t1':decide (lv < nb) = true:=decide_eq_true hbig
    have t1'':(lv:Int) < (nb:Int):=by omega
    refine wp_region_S (GtS w G S I J d P) (by kernel_rfl) (by kernel_rfl) (ST.out.below (Below.refl _ _).drew) ?_
    clear ST
    intro hne
    have hc4:∀ y:InW (GtS w G S I J d P),y.W.cell? ⟨w.heap.size,4,none⟩ = some (.slice (some ⟨fb,fo,none⟩) P.nf d.fc):=fun y => HC4.out _ y.h
    have hc2:∀ y:InW (GtS w G S I J d P),y.W.cell? ⟨fb,fo + k * 6 + 2,none⟩ = some (.slice (d.ba k) nb (d.bc k)):=fun y => HC2.out _ y.h
    have hc3:∀ y:InW (GtS w G S I J d P),y.W.cell? ⟨fb,fo + k * 6 + 3,none⟩ = some (.slice (d.na k) nn (d.nc k)):=fun y => HC3.out _ y.h
    repeat (first | go_big_quiet_skip | (go_big_quiet_want;go_big_quiet_op;go_big_quiet_on))
    refine wpQuiet_nil ?_
    intro w2 h2'
    have ST:=Lib.hid h2'.out
    clear h2' hne hc4 hc2 hc3
    go_wp2_with fail
    go_ret
    exact ⟨⟨true,rfl,fun e => by cases e⟩,ST.out.bel⟩
   have t1:decide ((lv:Int) < (nb:Int)) = false:=decide_eq_false (by omega)
   have t1':decide (lv < nb) = false:=decide_eq_false hbig
   have t1'':¬ (lv:Int) < (nb:Int):=by omega
   have w1:wrap64 ((lv:Int) - (nb:Int)) = (lv:Int) - (nb:Int):=IntWalk.wrap64_in _ (by omega)
   by_cases hbig2:lv < nb + nn
   ·have t2:decide ((lv:Int) - (nb:Int) < (nn:Int)) = true:=decide_eq_true (by omega)
    have t2'':(lv:Int) - (nb:Int) < (nn:Int):=by omega
    refine wp_region_S (GtS w G S I J d P) (by kernel_rfl) (by kernel_rfl) (ST.out.below (Below.refl _ _).drew) ?_
    clear ST
    intro hne
    have hc4:∀ y:InW (GtS w G S I J d P),y.W.cell? ⟨w.heap.size,4,none⟩ = some (.slice (some ⟨fb,fo,none⟩) P.nf d.fc):=fun y => HC4.out _ y.h
    have hc2:∀ y:InW (GtS w G S I J d P),y.W.cell? ⟨fb,fo + k * 6 + 2,none⟩ = some (.slice (d.ba k) nb (d.bc k)):=fun y => HC2.out _ y.h
    have hc3:∀ y:InW (GtS w G S I J d P),y.W.cell? ⟨fb,fo + k * 6 + 3,none⟩ = some (.slice (d.na k) nn (d.nc k)):=fun y => HC3.out _ y.h
    repeat (first | go_big_quiet_skip | (go_big_quiet_want;go_big_quiet_op;go_big_quiet_on))
    refine wpQuiet_nil ?_
    intro w2 h2'
    have ST:=Lib.hid h2'.out
    clear h2' hne hc4 hc2 hc3
    go_wp2_with fail
    go_ret
    exact ⟨⟨true,rfl,fun e => by cases e⟩,ST.out.bel⟩
   have t2:decide ((lv:Int) - (nb:Int) < (nn:Int)) = false:=decide_eq_false (by omega)
   have t2'':¬ (lv:Int) - (nb:Int) < (nn:Int):=by omega
   refine wp_region_S (GtS w G S I J d P) (by kernel_rfl) (by kernel_rfl) (ST.out.below (Below.refl _ _).drew) ?_
   clear ST
   intro hne
   have hc4:∀ y:InW (GtS w G S I J d P),y.W.cell? ⟨w.heap.size,4,none⟩ = some (.slice (some ⟨fb,fo,none⟩) P.nf d.fc):=fun y => HC4.out _ y.h
   have hc2:∀ y:InW (GtS w G S I J d P),y.W.cell? ⟨fb,fo + k * 6 + 2,none⟩ = some (.slice (d.ba k) nb (d.bc k)):=fun y => HC2.out _ y.h
   have hc3:∀ y:InW (GtS w G S I J d P),y.W.cell? ⟨fb,fo + k * 6 + 3,none⟩ = some (.slice (d.na k) nn (d.nc k)):=fun y => HC3.out _ y.h
   repeat (first | go_big_quiet_skip | (go_big_quiet_want;go_big_quiet_op;go_big_quiet_on))
   refine wpQuiet_nil ?_
   intro w2 h2'
   have ST:=Lib.hid h2'.out
   clear h2' hne hc4 hc2 hc3
   go_wp2_with fail
   refine wp_region_S (GtS w G S I J d P) (by kernel_rfl) (by kernel_rfl) (ST.out.below (Below.refl _ _).drew) ?_
   clear ST
   intro hne
   have hc4:∀ y:InW (GtS w G S I J d P),y.W.cell? ⟨w.heap.size,4,none⟩ = some (.slice (some ⟨fb,fo,none⟩) P.nf d.fc):=fun y => HC4.out _ y.h
   have hc2:∀ y:InW (GtS w G S I J d P),y.W.cell? ⟨fb,fo + k * 6 + 2,none⟩ = some (.slice (d.ba k) nb (d.bc k)):=fun y => HC2.out _ y.h
   have hc3:∀ y:InW (GtS w G S I J d P),y.W.cell? ⟨fb,fo + k * 6 + 3,none⟩ = some (.slice (d.na k) nn (d.nc k)):=fun y => HC3.out _ y.h
   repeat (first | go_big_quiet_skip | (go_big_quiet_want;go_big_quiet_op;go_big_quiet_on))
   refine wpQuiet_nil ?_
   intro w3 h3'
   have ST:=Lib.hid h3'.out
   clear h3' hne hc4 hc2 hc3
   go_wp2_with fail
   obtain ⟨lw,hlw⟩:∃ lw:Nat,(lw:Int) = (lv:Int) - (nb:Int) - (nn:Int):=⟨lv - nb - nn,by omega⟩
   rw [← hlw]
   have HLW:Hid (lw + P.cn (k + 1) = 1000):=by show _ = _;have:=HCN.out;rw [HCN1.out];omega
   clear t1 t1' t1'' t2 t2'' w1 hbig hbig2 hlw c4
   go_loopw [5] (fun i wr => ∃ q:Nat,q ≤ nn ∧ i = .int .i64 (q:Int) ∧ (∀ s,s < q → ((P.f k).nm s).size ≤ 1000) ∧ GtS w G S I J d P wr) (fun i _ => nn - (intOf i).toNat)
   case atStart => exact ⟨0,Nat.zero_le _,rfl,fun t ht => absurd ht (Nat.not_lt_zero _),ST.out⟩
   case round =>
    clear ST
    obtain ⟨q,hq,rfl,hnq,st⟩:=hrel
    have ST:=Lib.hid st
    have HNQ:=Lib.hid hnq
    have c4:=HC4.out _ st
    have c3:=HC3.out _ st
    clear st hnq
    by_cases hqt:q < nn
    ·have hqt':(q:Int) < (nn:Int):=by omega
     have hqt2:q < (P.f k).nn:=by rw [← HNN.out];exact hqt
     obtain ⟨nb_,no,hna,cn1⟩:=(ST.out.r.n k hlt).cell (j:=1) hqt2 rfl
     rw [hna] at c3
     have hs9:=HBD.out.nm k q
     obtain ⟨sz,hsz⟩:∃ sz,sz = (P.f k).nm q:=⟨_,rfl⟩
     have HSZ:=Lib.hid hsz
     rw [← hsz] at cn1 hs9
     clear hsz hqt2
     by_cases hbig:1000 < sz.size
     ·have hbig':(1000:Int) < (sz.size:Int):=by omega
      have t1:decide ((1000:Int) < (sz.size:Int)) = true:=decide_eq_true hbig'
      have t2:decide (1000 < sz.size) = true:=decide_eq_true hbig
      go_wp2_with fail
      go_ret
      exact ⟨⟨true,rfl,fun e => by cases e⟩,ST.out.bel⟩
     ·have hbig':¬ (1000:Int) < (sz.size:Int):=by omega
      have t1:decide ((1000:Int) < (sz.size:Int)) = false:=decide_eq_false hbig'
      have t2:decide (1000 < sz.size) = false:=decide_eq_false hbig
      go_wp2_with fail
      go_roundw
      case rel => exact ⟨q + 1,by omega,by go_num,fun s hs => by
       rcases Nat.lt_succ_iff_lt_or_eq.mp hs with h | rfl
       ·exact HNQ.out s h
       ·rw [← HSZ.out];omega,ST.out⟩
      case measure => simp [intOf];omega
    ·obtain rfl:q = nn:=by omega
     have HNM2:Hid (∀ t,t < k + 1 → ∀ s,s < (P.f t).nn → ((P.f t).nm s).size ≤ 1000):=fun t ht s hs => by
      rcases Nat.lt_succ_iff_lt_or_eq.mp ht with h | rfl
      ·exact HNM.out t h s hs
      ·exact HNQ.out s (by rw [HNN.out];exact hs)
     go_wp2_with fail
     go_roundw
     case rel => first | exact ⟨k + 1,lw,by omega,by first | rfl | go_num,rfl,HLW.out,HNM2.out,ST.out⟩ | ((repeat apply Exists.intro);refine ⟨?_,rfl⟩;exact ⟨k + 1,lw,by omega,by first | rfl | go_num,rfl,HLW.out,HNM2.out,ST.out⟩)
     case measure => simp [intOf];omega
  ·obtain rfl:k = P.nf:=by omega
   go_wp2_with fail
   go_ret
   exact ⟨⟨false,rfl,fun _ => ⟨by omega,by omega,by have:=HCN.out;omega,HNM.out⟩⟩,ST.out.bel⟩
end Go.Proofs.YtphamecphmbipaaGreatDoor

namespace Go.Proofs.YtphamecphmbipaaGreatDoor
open Go.RowKit Go.ChangeShapes Go.WideShapes Go.ChangeAt Go.Deep
set_option linter.unusedVariables false
theorem rrow_lt {W:World} {a:Option Addr} {m n:Nat} {f:Nat → List Value} (h:RRow W a m n f) (hf:∀ i,(f i)[0]? ≠ none):∀ b off,a = some ⟨b,off,none⟩ → 0 < n → b < W.heap.size:=by
 intro b off e hn
 rcases h with h | ⟨b',off',e',hs⟩
 ·omega
 ·rw [e] at e';injection e' with e';injection e' with e1 e2;subst e1 e2
  cases hv:(f 0)[0]? with
  | none => exact absurd hv (hf 0)
  | some v => exact World.block_lt_of_cell? W _ (hs 0 hn 0 v hv)
theorem oldR_of {W:World} {a:Option Addr} {m n:Nat} {f:Nat → List Value} (h:RRow W a m n f) (hf:∀ i,(f i)[0]? ≠ none):OldR W.heap.size W a m n f:=⟨h,rrow_lt h hf⟩
theorem names_in {H:Type} {enc:TypeId × Value → H} {W:World} {a:Option Addr} {len cap:Nat} {d:DataW H} {p:List MemPlace} (h:DataW.Trod enc Tryz.prog W 0 (fun _ => true) true 76 (.slice a len cap) d p) :
  ∃ (xb:Nat → Int) (xs:Nat → ByteArray),RRow W a 2 len (fun i => [.int .i64 (xb i),.string (xs i)]) ∧ (∀ i,-9223372036854775808 ≤ xb i ∧ xb i ≤ 9223372036854775807) ∧ (∀ i,(xs i).size ≤ 9223372036854775807) ∧ (len:Int) ≤ 9223372036854775807:=by
 obtain ⟨fuel,hf⟩:=h
 rcases open_slice Tryz.underlying76 hf with ⟨hcs,_⟩ | ⟨x,l,c,m,nn,DD,Pl,hcs,_,hl,hm,hmm,_,hall⟩
 ·simp [Value.cells] at hcs
  obtain ⟨rfl,rfl,rfl⟩:=hcs
  exact ⟨fun _ => 0,fun _ => ByteArray.empty,.inl rfl,fun _ => ⟨(by decide:(-9223372036854775808:Int) ≤ 0),(by decide:(0:Int) ≤ 9223372036854775807)⟩,fun _ => (by decide:ByteArray.empty.size ≤ 9223372036854775807),by omega⟩
 ·simp [Value.cells] at hcs
  obtain ⟨rfl,rfl,rfl⟩:=hcs
  have hmax:maxLen = 9223372036854775807:=rfl
  have hlm:len ≤ m:=by rw [hmm];split <;> omega
  have hce:Tryz.prog.cellsOf 80 = 2:=by kernel_rfl
  rw [hce] at hall
  have key:∀ i,i < len → ∃ (b:Int) (s:ByteArray),W.cell? (x.add (i * 2)) = some (.int .i64 b) ∧ W.cell? (x.add (i * 2 + 1)) = some (.string s) ∧ (-9223372036854775808 ≤ b ∧ b ≤ 9223372036854775807) ∧ s.size ≤ 9223372036854775807:=by
   intro i hi
   obtain ⟨cs',h1,h2⟩:=hall i (by omega)
   obtain ⟨_,hlen,hcell⟩:=World.cells?_some h1
   obtain ⟨xs,k,_,_,_,hxl,hfl⟩:=DataW.trod_struct Tryz.underlying80 h2
   match xs,hxl,cs',hlen with
   | [y0,y1],_,[v0,v1],_ =>
    have g0:=hfl 0 _ rfl
    have g1:=hfl 1 _ rfl
    have hci:Tryz.prog.cellsOf 3 = 1:=by kernel_rfl
    have hcs:Tryz.prog.cellsOf 9 = 1:=by kernel_rfl
    simp [hci,hcs] at g0 g1
    obtain ⟨b,e0,_,wb⟩:=DataW.trod_int Tryz.underlying3 g0
    obtain ⟨s,e1,_,ws⟩:=DataW.trod_string Tryz.underlying9 g1
    simp at e0 e1
    have bb:=bounds_i64 wb
    have c0:=hcell 0 (by omega)
    have c1:=hcell 1 (by omega)
    rw [add_add] at c0 c1
    exact ⟨b,s,by simpa [e0] using c0,by simpa [e1] using c1,bb,ws⟩
  refine ⟨fun i => if hi:i < len then (key i hi).choose else 0,fun i => if hi:i < len then (key i hi).choose_spec.choose else ByteArray.empty,?_,?_,?_,by omega⟩
  ·by_cases h0:len = 0
   ·exact .inl h0
   ·obtain ⟨b,off,spot⟩:=x
    have hc:=(key 0 (by omega)).choose_spec.choose_spec.1
    have hspot:spot = none:=by simpa [Addr.add] using World.cell?_spot hc
    subst hspot
    refine .inr ⟨b,off,rfl,fun i hi j v hv => ?_⟩
    have hk:=(key i hi).choose_spec.choose_spec
    have hj:j < 2:=(List.getElem?_eq_some_iff.1 hv).1
    simp only [hi,dif_pos] at hv
    rw [Nat.add_assoc,← addr_add]
    obtain rfl | rfl:j = 0 ∨ j = 1:=by omega
    ·rw [← hv];exact hk.1
    ·rw [← hv];exact hk.2.1
  ·intro i
   by_cases hi:i < len
   ·simp only [hi,dif_pos];exact (key i hi).choose_spec.choose_spec.2.2.1
   ·simp only [hi,dif_neg,not_false_eq_true];decide
  ·intro i
   by_cases hi:i < len
   ·simp only [hi,dif_pos];exact (key i hi).choose_spec.choose_spec.2.2.2
   ·simp only [hi,dif_neg,not_false_eq_true];decide
structure FD where
 f:PF
 ba:Option Addr
 bc:Nat
 na:Option Addr
 nc:Nat
def FD.no:FD:=⟨⟨0,0,0,fun _ => 0,0,fun _ => 0,fun _ => ByteArray.empty,false,0⟩,none,0,none,0⟩
def FD.c (x:FD):List Value:=[.int .u8 x.f.kind,.int .i64 x.f.size,.slice x.ba x.f.nb x.bc,.slice x.na x.f.nn x.nc,.bool x.f.orp,.int .i64 x.f.links]
structure FD.In (x:FD) (W:World):Prop where
 b:OldR W.heap.size W x.ba 1 x.f.nb (blR x.f)
 n:OldR W.heap.size W x.na 2 x.f.nn (nmR x.f)
 nb:(x.f.nb:Int) ≤ 9223372036854775807
 nn:(x.f.nn:Int) ≤ 9223372036854775807
 nm:∀ k,((x.f.nm k).size:Int) ≤ 9223372036854775807
 kind:0 ≤ x.f.kind ∧ x.f.kind < 256
 size:-9223372036854775808 ≤ x.f.size ∧ x.f.size ≤ 9223372036854775807
 links:-9223372036854775808 ≤ x.f.links ∧ x.f.links ≤ 9223372036854775807
 bl:∀ k,-9223372036854775808 ≤ x.f.bl k ∧ x.f.bl k ≤ 9223372036854775807
 dir:∀ k,-9223372036854775808 ≤ x.f.dir k ∧ x.f.dir k ≤ 9223372036854775807
theorem FD.no_in (W:World):FD.no.In W :=
 ⟨⟨.inl rfl,fun _ _ e => by cases e⟩,⟨.inl rfl,fun _ _ e => by cases e⟩,by decide,by decide,fun _ => (by decide:((ByteArray.empty.size:Nat):Int) ≤ 9223372036854775807),by decide,by decide,by decide,fun _ => (by decide:(-9223372036854775808:Int) ≤ 0 ∧ (0:Int) ≤ 9223372036854775807),fun _ => (by decide:(-9223372036854775808:Int) ≤ 0 ∧ (0:Int) ≤ 9223372036854775807)⟩
theorem files_in {H:Type} {enc:TypeId × Value → H} {W:World} {a:Option Addr} {len cap:Nat} {d:DataW H} {p:List MemPlace} (h:DataW.Trod enc Tryz.prog W 0 (fun _ => true) true 24 (.slice a len cap) d p) :
  ∃ D:Nat → FD,RRow W a 6 len (fun i => (D i).c) ∧ (∀ i,(D i).In W) ∧ (len:Int) ≤ 9223372036854775807:=by
 obtain ⟨fuel,hf⟩:=h
 rcases open_slice Tryz.underlying24 hf with ⟨hcs,_⟩ | ⟨x,l,c,m,nn,DD,Pl,hcs,_,hl,hm,hmm,_,hall⟩
 ·simp [Value.cells] at hcs
  obtain ⟨rfl,rfl,rfl⟩:=hcs
  exact ⟨fun _ => FD.no,.inl rfl,fun i => FD.no_in W,by omega⟩
 ·simp [Value.cells] at hcs
  obtain ⟨rfl,rfl,rfl⟩:=hcs
  have hmax:maxLen = 9223372036854775807:=rfl
  have hlm:len ≤ m:=by rw [hmm];split <;> omega
  have hce:Tryz.prog.cellsOf 78 = 6:=by kernel_rfl
  rw [hce] at hall
  have key:∀ i,i < len → ∃ d:FD,(∀ j v,d.c[j]? = some v → W.cell? (x.add (i * 6 + j)) = some v) ∧ d.In W:=by
   intro i hi
   obtain ⟨cs',h1,h2⟩:=hall i (by omega)
   obtain ⟨_,hlen,hcell⟩:=World.cells?_some h1
   obtain ⟨xs,k,_,_,_,hxl,hfl⟩:=DataW.trod_struct Tryz.underlying78 h2
   match xs,hxl,cs',hlen with
   | [y0,y1,y2,y3,y4,y5],_,[v0,v1,v2,v3,v4,v5],_ =>
    have g0:=hfl 0 _ rfl
    have g1:=hfl 1 _ rfl
    have g2:=hfl 2 _ rfl
    have g3:=hfl 3 _ rfl
    have g4:=hfl 4 _ rfl
    have g5:=hfl 5 _ rfl
    have hcu:Tryz.prog.cellsOf 5 = 1:=by kernel_rfl
    have hci:Tryz.prog.cellsOf 3 = 1:=by kernel_rfl
    have hcv:Tryz.prog.cellsOf 37 = 1:=by kernel_rfl
    have hcn:Tryz.prog.cellsOf 76 = 1:=by kernel_rfl
    have hcb:Tryz.prog.cellsOf 4 = 1:=by kernel_rfl
    simp [hcu,hci,hcv,hcn,hcb] at g0 g1 g2 g3 g4 g5
    obtain ⟨kd,e0,_,w0⟩:=DataW.trod_int Tryz.underlying5 g0
    obtain ⟨sz,e1,_,w1⟩:=DataW.trod_int Tryz.underlying3 g1
    obtain ⟨lk,e5,_,w5⟩:=DataW.trod_int Tryz.underlying3 g5
    obtain ⟨ob,e4,_⟩:=DataW.trod_bool Tryz.underlying4 g4
    simp at e0 e1 e4 e5
    obtain ⟨ba,bn,bc,rfl⟩:∃ ba bn bc,v2 = .slice ba bn bc:=by
     rcases open_slice Tryz.underlying37 g2 with ⟨e,_⟩ | ⟨x,l,c,m,nn,DD,Pl,e,_⟩
     ·simp at e;exact ⟨_,_,_,e⟩
     ·simp at e;exact ⟨_,_,_,e⟩
    obtain ⟨na,nn',nc,rfl⟩:∃ ba bn bc,v3 = .slice ba bn bc:=by
     rcases open_slice Tryz.underlying76 g3 with ⟨e,_⟩ | ⟨x,l,c,m,nn,DD,Pl,e,_⟩
     ·simp at e;exact ⟨_,_,_,e⟩
     ·simp at e;exact ⟨_,_,_,e⟩
    obtain ⟨bl,hbl,hwb,hlb,_⟩:=ints_in (a:=ba) (len:=bn) (cap:=bc) ⟨k,g2⟩
    obtain ⟨dr,nm,hnm,hwd,hws,hln⟩:=names_in (a:=na) (len:=nn') (cap:=nc) ⟨k,g3⟩
    have b0:=bounds_u8 w0
    have b1:=bounds_i64 w1
    have b5:=bounds_i64 w5
    have c0:=hcell 0 (by omega)
    have c1:=hcell 1 (by omega)
    have c2:=hcell 2 (by omega)
    have c3:=hcell 3 (by omega)
    have c4:=hcell 4 (by omega)
    have c5:=hcell 5 (by omega)
    rw [add_add] at c0 c1 c2 c3 c4 c5
    refine ⟨⟨⟨kd,sz,bn,bl,nn',dr,nm,ob,lk⟩,ba,bc,na,nc⟩,fun j v hv => ?_,oldR_of hbl (fun _ e => by cases e),oldR_of hnm (fun _ e => by cases e),hlb,hln,fun q => by have:=hws q;dsimp only;omega,⟨by dsimp only;omega,by dsimp only;omega⟩,b1,b5,hwb,hwd⟩
    have hj:j < 6:=(List.getElem?_eq_some_iff.1 hv).1
    unfold FD.c at hv
    obtain rfl | rfl | rfl | rfl | rfl | rfl:j = 0 ∨ j = 1 ∨ j = 2 ∨ j = 3 ∨ j = 4 ∨ j = 5:=by omega
    ·rw [← hv];simpa [e0] using c0
    ·rw [← hv];simpa [e1] using c1
    ·rw [← hv];simpa using c2
    ·rw [← hv];simpa using c3
    ·rw [← hv];simpa [e4] using c4
    ·rw [← hv];simpa [e5] using c5
  refine ⟨fun i => if hi:i < len then (key i hi).choose else FD.no,?_,fun i => ?_,by omega⟩
  ·by_cases h0:len = 0
   ·exact .inl h0
   ·obtain ⟨b,off,spot⟩:=x
    have hc:=(key 0 (by omega)).choose_spec.1 0 _ rfl
    have hspot:spot = none:=by simpa [Addr.add] using World.cell?_spot hc
    subst hspot
    refine .inr ⟨b,off,rfl,fun i hi j v hv => ?_⟩
    have hk:=(key i hi).choose_spec.1 j v
    simp only [hi,dif_pos] at hv
    rw [Nat.add_assoc,← addr_add]
    exact hk hv
  ·by_cases hi:i < len
   ·simp only [hi,dif_pos];exact (key i hi).choose_spec.2
   ·simp only [hi,dif_neg,not_false_eq_true];exact FD.no_in W
theorem plan_in {H:Type} {enc:TypeId × Value → H} {W:World} {v:Value} {d:DataW H} {p:List MemPlace} (h:DataW.Trod enc Tryz.prog W 0 (fun _ => true) true 27 v d p) :
  ∃ (G S I J:Int) (e:PlAd) (P:PlanD),v = plVal G S I J e P ∧ P.Bd ∧ PlnR W.heap.size e P W ∧ (∀ x ∈ [G,S,I,J],-9223372036854775808 ≤ x ∧ x ≤ 9223372036854775807):=by
 obtain ⟨fuel,hf⟩:=h
 obtain ⟨xs,k,_,_,hlen,hxl,hfl⟩:=DataW.trod_struct Tryz.underlying27 hf
 have hce:Tryz.prog.cellsOf 27 = 7:=by kernel_rfl
 rw [hce] at hlen
 obtain ⟨c,hc,hcs⟩:∃ c:Array Value,v = .agg c ∧ c.size = 7:=by
  cases v <;> first | exact ⟨_,rfl,by simpa [Value.cells] using hlen⟩ | (exfalso;simp [Value.cells] at hlen)
 subst hc
 obtain ⟨l⟩:=c
 match l,hcs with
 | [v0,v1,v2,v3,v4,v5,v6],_ =>
  match xs,hxl with
  | [y0,y1,y2,y3],_ =>
   have g0:=hfl 0 _ rfl
   have g1:=hfl 1 _ rfl
   have g2:=hfl 2 _ rfl
   have g3:=hfl 3 _ rfl
   have hcg:Tryz.prog.cellsOf 23 = 4:=by kernel_rfl
   have hcf:Tryz.prog.cellsOf 24 = 1:=by kernel_rfl
   have hcc:Tryz.prog.cellsOf 25 = 1:=by kernel_rfl
   have hcb:Tryz.prog.cellsOf 4 = 1:=by kernel_rfl
   have hci:Tryz.prog.cellsOf 3 = 1:=by kernel_rfl
   simp [Value.cells,hcg,hcf,hcc,hcb] at g0 g1 g2 g3
   obtain ⟨xs0,k0,_,_,_,hxl0,hfl0⟩:=DataW.trod_struct Tryz.underlying23 g0
   match xs0,hxl0 with
   | [z0,z1,z2,z3],_ =>
    have f0:=hfl0 0 _ rfl
    have f1:=hfl0 1 _ rfl
    have f2:=hfl0 2 _ rfl
    have f3:=hfl0 3 _ rfl
    simp [hci] at f0 f1 f2 f3
    obtain ⟨G,e0,_,b0⟩:=DataW.trod_int Tryz.underlying3 f0
    obtain ⟨S,e1,_,b1⟩:=DataW.trod_int Tryz.underlying3 f1
    obtain ⟨I,e2,_,b2⟩:=DataW.trod_int Tryz.underlying3 f2
    obtain ⟨J,e3,_,b3⟩:=DataW.trod_int Tryz.underlying3 f3
    obtain ⟨sm,e6,_⟩:=DataW.trod_bool Tryz.underlying4 g3
    simp at e0 e1 e2 e3 e6
    subst e0 e1 e2 e3 e6
    have b0:=bounds_i64 b0
    have b1:=bounds_i64 b1
    have b2:=bounds_i64 b2
    have b3:=bounds_i64 b3
    obtain ⟨fa,fn,fc,rfl⟩:∃ ta tn tc,v4 = .slice ta tn tc:=by
     rcases open_slice Tryz.underlying24 g1 with ⟨e,_⟩ | ⟨x,l,c,m,nn,DD,Pl,e,_⟩ <;> (simp at e;exact ⟨_,_,_,e⟩)
    obtain ⟨ca,cn,cc,rfl⟩:∃ ta tn tc,v5 = .slice ta tn tc:=by
     rcases open_slice Tryz.underlying25 g2 with ⟨e,_⟩ | ⟨x,l,c,m,nn,DD,Pl,e,_⟩ <;> (simp at e;exact ⟨_,_,_,e⟩)
    obtain ⟨D,hD,hDi,hDl⟩:=files_in (a:=fa) (len:=fn) (cap:=fc) ⟨k,g1⟩
    obtain ⟨xb,xt,xo,hC,hb,ht,ho,hCl,_⟩:=chs_in (a:=ca) (len:=cn) (cap:=cc) ⟨k,g2⟩
    refine ⟨G,S,I,J,⟨fa,fc,ca,cc,fun i => (D i).ba,fun i => (D i).bc,fun i => (D i).na,fun i => (D i).nc⟩,⟨fn,fun i => (D i).f,cn,xb,xt,xo,sm⟩,rfl,
     ⟨hDl,hCl,fun i => (hDi i).nb,fun i => (hDi i).nn,fun i => (hDi i).nm,fun i => (hDi i).kind,fun i => (hDi i).size,fun i => (hDi i).links,fun i => (hDi i).bl,fun i => (hDi i).dir,hb,ht,ho⟩,
     ⟨oldR_of hD (fun _ e => by cases e),fun i _ => (hDi i).b,fun i _ => (hDi i).n,oldR_of hC (fun _ e => by cases e)⟩,?_⟩
    intro x hx
    simp only [List.mem_cons,List.not_mem_nil,or_false] at hx
    rcases hx with rfl | rfl | rfl | rfl <;> assumption
end Go.Proofs.YtphamecphmbipaaGreatDoor
