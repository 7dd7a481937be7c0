/- Texts of this claim, merged. -/
import Derived.Test.YtphamecphmbipaaGreatDoorK33
import Derived.Maps.Own
import Derived.Maps.OwnOps
import Derived.Maps.Views
namespace Go.Proofs.YtphamecphmbipaaGreatDoor
open Go.RowKit Go.WideMaps Go.Maps
set_option linter.unusedVariables false
def nmD (l:List (List UInt8)):DataW Unit:=setOf (.lit (.int .i64 1)) (l.map Lit.string)
theorem nmD_nil:nmD [] = .map []:=rfl
theorem nmD_snoc (l:List (List UInt8)) (s:List UInt8):nmD (l ++ [s]) = (nmD l).put (.string s) (.lit (.int .i64 1)):=by
 unfold nmD;rw [List.map_append,List.map_singleton,setOf_snoc]
theorem atKey_fold (u z:DataW Unit) (k:Lit):∀ (l:List Lit) (m:DataW Unit),IsMap m → (∀ x ∈ l,WideAt.IsKeyLit x) → (k ∈ l → (l.foldl (fun m x => m.put x u) m).atKey k z = u) ∧ (k ∉ l → (l.foldl (fun m x => m.put x u) m).atKey k z = m.atKey k z)
 | [],m,_,_ => ⟨(fun h => by cases h),fun _ => rfl⟩
 | x :: l,m,hm,hl => by
  have ih:=atKey_fold u z k l (m.put x u) (hm.put x u) fun y hy => hl y (List.mem_cons_of_mem _ hy)
  rw [List.foldl_cons]
  refine ⟨fun h => ?_,fun h => ?_⟩
  ·by_cases hk:k ∈ l
   ·exact ih.1 hk
   ·rcases List.mem_cons.1 h with rfl | h
    ·rw [ih.2 hk];exact atKey_put_same hm (hl k (List.mem_cons_self ..)) _ _
    ·exact absurd h hk
  ·rw [ih.2 fun h2 => h (List.mem_cons_of_mem _ h2)]
   exact atKey_put_other (fun e => h (by rw [e];exact List.mem_cons_self ..)) _ _
theorem nmD_isMap (l:List (List UInt8)):IsMap (nmD l):=(tidy_setOf _ _ fun x hx => by
 obtain ⟨s,_,rfl⟩:=List.mem_map.1 hx
 trivial).isMap
theorem nmD_at (l:List (List UInt8)) (s:List UInt8):(s ∈ l → (nmD l).atKey (.string s) (.lit (.int .i64 0)) = .lit (.int .i64 1)) ∧ (s ∉ l → (nmD l).atKey (.string s) (.lit (.int .i64 0)) = .lit (.int .i64 0)):=by
 obtain ⟨h1,h2⟩:=atKey_fold (.lit (.int .i64 1)) (.lit (.int .i64 0)) (.string s) (l.map Lit.string) (.map []) isMap_empty (fun x hx => by
  obtain ⟨s,_,rfl⟩:=List.mem_map.1 hx
  trivial)
 have hmem:Lit.string s ∈ l.map Lit.string ↔ s ∈ l:=by
  rw [List.mem_map]
  constructor
  ·rintro ⟨y,hy,e⟩;injection e with e;exact e ▸ hy
  ·intro h;exact ⟨s,h,rfl⟩
 exact ⟨fun h => h1 (hmem.2 h),fun h => (h2 (fun h3 => h (hmem.1 h3))).trans rfl⟩
theorem law_str:Keyed Tryz.prog 9:=string_keyed Tryz.underlying9
theorem zero_i64 (w:World):(zeroValue 3).run Tryz.prog w = .ok (.int .i64 0) w:=by kernel_rfl
theorem dM_size {z:Nat → Int} (hz:Byt z) (k:Nat):(dM z k).size ≤ 255:=by
 unfold dM slN
 split
 ·unfold sNm strOfNums
  have:=hz (32 * k + 4)
  unfold sLen sl
  simp [ByteArray.size]
  omega
 ·exact Nat.zero_le _
theorem dI_bd {z:Nat → Int} (hz:Byt z) (k:Nat):0 ≤ dI z k ∧ dI z k < 4294967296:=by
 unfold dI slI
 split
 ·unfold sIno;exact g32_bd (fun j => hz _) 0
 ·decide
theorem CkX.self {w:World} {p b off:Nat} {x:Im} {cs:Array Value} {q:Nat} {W:World} (h:CkX w p b off x cs q W):CkX W p b off x cs q W:=⟨h.a,h.i,h.r,h.bl,⟨rfl,rfl,rfl,Nat.le_refl _,fun _ _ _ => rfl⟩⟩
theorem CkX.new {w:World} {p b off:Nat} {x:Im} {cs:Array Value} {q:Nat} {W W':World} (h:CkX w p b off x cs q W) (hp:p < w.heap.size) (hb:b < w.heap.size) (hq:q < w.heap.size) {row:Option Nat} (hg:W.grownBy W' row) (hr:∀ r,row = some r → w.heap.size ≤ r):CkX w p b off x cs q W' :=
 ⟨AtGrown h.a hg (fun e => by have:=hr p e;omega),RSeg.grownQ h.i hg h.bl (fun e => by have:=hr b e.symm;omega),h.r.grown hg (fun e => by have:=hr q e.symm;omega),Nat.lt_of_lt_of_le h.bl hg.size,
  ⟨hg.os.trans h.gr.os,hg.tape.trans h.gr.tape,hg.output.trans h.gr.output,Nat.le_trans h.gr.size hg.size,fun j hj hne => (hg.block j (Nat.lt_of_lt_of_le hj h.gr.size) (fun e => by have:=hr j e.symm;omega)).trans (h.gr.block j hj hne)⟩⟩
structure DrS (w:World) (p b off:Nat) (x:Im) (cs:Array Value) (q:Nat) (ns:List (List UInt8)) (is:List Nat) (n:Nat) (v:Value) (W:World):Prop where
 s:CkX w p b off x cs q W
 m:W.ownsMap Tryz.prog 9 (plainElem (H:=Unit) Tryz.prog 3) w.heap.size n (nmD ns)
 o:RMine W (w.heap.size + 1) 3 1 v is.length (nmF is)
 bel:Below w.heap.size w W
 n1:is.length ≤ n
section
variable {w:World} {p b off:Nat} {x:Im} {cs:Array Value} {q:Nat} {ns:List (List UInt8)} {is:List Nat} {n:Nat} {v:Value} {W W':World}
theorem DrS.below (h:DrS w p b off x cs q ns is n v W) (hb:Below W.heap.size W W'):DrS w p b off x cs q ns is n v W' :=
 ⟨h.s.below hb,h.m.kept (grown_below (row:=none) hb) (by simp),RMine.below h.o hb,h.bel.trans (hb.mono h.bel.size),h.n1⟩
theorem DrS.more (h:DrS w p b off x cs q ns is n v W) {n':Nat} (hn:n ≤ n'):DrS w p b off x cs q ns is n' v W:=⟨h.s,h.m.mono hn,h.o,h.bel,Nat.le_trans h.n1 hn⟩
theorem DrS.name (h:DrS w p b off x cs q ns is n v W) (hp:p < w.heap.size) (hb:b < w.heap.size) (hq:q < w.heap.size) {s:List UInt8} (hg:W.grownBy W' (some w.heap.size)) (hm:W'.ownsMap Tryz.prog 9 (plainElem (H:=Unit) Tryz.prog 3) w.heap.size (n + 1) (nmD (ns ++ [s]))):DrS w p b off x cs q (ns ++ [s]) is (n + 1) v W' :=
 ⟨h.s.new hp hb hq hg (fun r e => by injection e with e;omega),hm,World.ownsRow.kept h.o hg (by
  cases h1:v.ownBlock with
  | none => exact .inl rfl
  | some g => exact .inr (fun e => by injection e with e;have:=(World.ownsRow.lt h.o g h1).1;omega)),h.bel.grown hg h.bel.size (fun r e => by injection e with e;omega),Nat.le_succ_of_le h.n1⟩
theorem DrS.app (h:DrS w p b off x cs q ns is n v W) (hp:p < w.heap.size) (hb:b < w.heap.size) (hq:q < w.heap.size) {v':Value} {d:Nat} (hd:is.length + 1 ≤ n) (hg:W.grownBy W' v.ownBlock) (ho:W'.ownsRow (w.heap.size + 1) 3 1 v' (is.length + 1) (Cs (nmF is) is.length ++ [.int .i64 (d:Int)])):DrS w p b off x cs q ns (is ++ [d]) n v' W':=by
 have hob:∀ r,v.ownBlock = some r → w.heap.size + 1 ≤ r:=fun r e => (World.ownsRow.lt h.o r e).1
 refine ⟨h.s.new hp hb hq hg (fun r e => by have:=hob r e;omega),h.m.kept hg (fun e => by have:=hob _ e.symm;omega),?_,h.bel.grown hg h.bel.size (fun r e => by have:=hob r e;omega),by rw [List.length_append];exact hd⟩
 rw [List.length_append]
 show RMine W' (w.heap.size + 1) 3 1 v' (is.length + 1) (nmF (is ++ [d]))
 refine RMine.append (f:=nmF (is ++ [d])) (news:=[.int .i64 (d:Int)]) ?_ ?_
 ·rw [← Cs_congr fun k hk => nmF_app is d k hk];exact ho
 ·show _ = Cs _ 1
  rw [Cs_succ]
  show _ = [] ++ nmF (is ++ [d]) (is.length + 0)
  rw [Nat.add_zero,nmF_new];rfl
end
structure DrC (w:World) (p b off:Nat) (x:Im) (cs:Array Value) (q:Nat) (ns:List (List UInt8)) (is:List Nat) (n:Nat) (v:Value) (g:Nat) (sc:Array Value) (G d:Nat) (nm:ByteArray) (W:World):Prop where
 s:DrS w p b off x cs q ns is n v W
 a:At W G 90 #[.int .u32 (d:Int),.string nm]
 g:At W g 172 sc
theorem DrC.below {w:World} {p b off:Nat} {x:Im} {cs:Array Value} {q:Nat} {ns:List (List UInt8)} {is:List Nat} {n:Nat} {v:Value} {g:Nat} {sc:Array Value} {G d:Nat} {nm:ByteArray} {W W':World} (h:DrC w p b off x cs q ns is n v g sc G d nm W) (hb:Below W.heap.size W W'):DrC w p b off x cs q ns is n v g sc G d nm W' :=
 ⟨h.s.below hb,h.a.below hb h.a.lt,h.g.below hb h.g.lt⟩
def DirPost (w:World) (x:Im) (t:Nat) (e:Ending) (w':World):Prop :=
 Below w.heap.size w w' ∧ ((x.dirF t = none ∧ e = .panicked (brk 9)) ∨ ∃ r v,x.dirF t = some r ∧ e = .returned v ∧ RMine w' w.heap.size 3 1 v r.2.length (nmF r.2))
set_option maxRecDepth 100000 in
set_option maxHeartbeats 16000000 in
theorem ckDir_any (p b off cap:Nat) (x:Im) (hx:x.Ok) (ds orp own sl un:Value) (q:Nat) (t:Nat) (ht1:1 ≤ t) (ht:t ≤ x.ni) (hM:(x.ino t).May) (hT:x.Tree t) (w:World) (hpw:p < w.heap.size) (hbw:b < w.heap.size) (hqw:q < w.heap.size) (h:CkX w p b off x (XC b off cap x ds (.slice (some ⟨q,0,none⟩) (x.ni + 1) (x.ni + 1)) orp own sl un) q w) :
  Calls Tryz.prog 133 #[.pointer (some ⟨p,0,none⟩),.int .i64 (t:Int)] w fun e w' => DirPost w x t e w':=by
 have HX:=Lib.hid hx
 have hn9:=hx.n_le
 have hni:x.ni ≤ 256:=gi_bd hx.may
 have hsz:=(Ino.may_bd hM).1
 obtain ⟨N,hN⟩:∃ N,N = (x.ino t).size.toNat / 256:=⟨_,rfl⟩
 have hq:(x.ino t).size.tdiv 256 = (N:Int):=by rw [Int.tdiv_eq_ediv_of_nonneg (by omega)];omega
 have hN9:N ≤ 65536:=by omega
 have HDF:Hid (x.dirF t = foldO (x.dirB' t) N ([],[])):=by show _ = _;unfold Im.dirF;rw [hN]
 have ht':(t:Int) < (x.ni:Int) + 1:=by omega
 have cS:w.cell? ⟨q,t * 16 + 3,none⟩ = some (.int .i64 (x.ino t).size):=h.ino (t:=t) (by omega) 3 rfl
 have hFind:Hid (∀ (i:Nat) (W:World),i < 65536 → CkX w p b off x (XC b off cap x ds (.slice (some ⟨q,0,none⟩) (x.ni + 1) (x.ni + 1)) orp own sl un) q W → Calls Tryz.prog 158 #[.pointer (some ⟨p,0,none⟩),.int .i64 (t:Int),.int .i64 (i:Int)] W fun e w' => e = .returned (.int .i64 ((x.blk t i:Nat):Int)) ∧ Below W.heap.size W w') :=
  fun i W hi hW => ckFind_any p b off cap x hx ds orp own sl un q t i ht1 ht hi hT W hW.self
 have HBL:Hid (∀ i:Nat,i < 65536 → x.blk t i ≠ 0 → x.blk t i < x.n):=fun i hi h0 => Im.blk_lt hT hi h0
 obtain ⟨cs,hcs⟩:∃ cs,cs = XC b off cap x ds (.slice (some ⟨q,0,none⟩) (x.ni + 1) (x.ni + 1)) orp own sl un:=⟨_,rfl⟩
 have HCS:Hid (∀ W,At W p 105 cs → W.cell? ⟨p,0,none⟩ = some (.slice (some ⟨b,off,none⟩) x.n cap) ∧ W.cell? ⟨p,11,none⟩ = some (.slice (some ⟨q,0,none⟩) (x.ni + 1) (x.ni + 1))):=fun W h => by
  rw [hcs] at h
  exact ⟨h.cell (i:=0) rfl,h.cell (i:=11) rfl⟩
 rw [← hcs] at h hFind
 have hb0:Below w.heap.size w (w.alloc (.map #[] 0)):=(Below.refl _ _).alloc (Nat.le_refl _) _
 have ST0:Hid (DrS w p b off x cs q [] [] 0 (.slice none 0 0) (w.alloc (.map #[] 0))):=⟨h.below hb0,by rw [nmD_nil];exact World.ownsMap_made _ _ _ _,RMine.nil _ _ _ _ _,hb0,Nat.le_refl _⟩
 have hmm:=@run_makeMap Tryz.prog
 have c11:=(HCS.out _ ST0.out.s.a).2
 have cS1:(w.alloc (.map #[] 0)).cell? ⟨q,t * 16 + 3,none⟩ = some (.int .i64 (x.ino t).size):=ST0.out.s.ino (t:=t) (by omega) 3 rfl
 clear h hcs hx hT hM hN hb0 cS
 go_enter Tryz.func133,Tryz.ntmps133
 go_wp2_with fail
 clear c11 cS1 hq hsz
 go_loopw [5,23] (fun v u wr => ∃ (k:Nat) (ns:List (List UInt8)) (is:List Nat),k ≤ N ∧ u = .int .i64 (k:Int) ∧ foldO (x.dirB' t) k ([],[]) = some (ns,is) ∧ DrS w p b off x cs q ns is (k * 8) v wr) (fun _ u _ => N - (intOf u).toNat)
 case atStart => exact ⟨0,[],[],Nat.zero_le _,rfl,rfl,ST0.out⟩
 case round =>
  clear ST0
  obtain ⟨k,ns,is,hk,rfl,hfo,st⟩:=hrel
  have HFO:=Lib.hid hfo
  have ST:=Lib.hid st
  clear hfo st
  by_cases hlt:k < N
  ·have hlt':(k:Int) < (N:Int):=by omega
   have HNO:Hid (x.dirB' t k (ns,is) = none → x.dirF t = none):=fun h => by rw [HDF.out];exact foldO_none HFO.out h hlt
   go_wp2_with fail
   refine (hFind.out k _ (by omega) ST.out.s).mono ?_
   rintro e w1 ⟨rfl,hb1⟩
   have ST1:=Lib.hid (ST.out.below hb1)
   have HBK:Hid (x.dirB' t k (ns,is) = if x.blk t k ≠ 0 ∧ dirB (x.L (x.blk t k)) = true then foldO (x.slotF (x.L (x.blk t k))) 8 (ns,is) else none):=rfl
   have hbn:=HBL.out k (by omega)
   obtain ⟨B,hB⟩:∃ B,B = x.blk t k:=⟨_,rfl⟩
   rw [← hB] at hbn HBK ⊢
   clear ST hb1 hB
   obtain ⟨c1,hc1⟩:∃ c,c = ((B:Int) != 0):=⟨_,rfl⟩
   have HC1:=Lib.hid hc1
   clear hc1
   go_wp2_with fail
   refine (must_any 9 ((B:Int) != 0) _).mono ?_
   rintro e w2 ⟨hS,rfl⟩
   rcases hS with ⟨hB0,rfl⟩ | ⟨hB0,rfl⟩
   rotate_left
   ·refine ⟨rfl,ST1.out.bel,.inl ⟨HNO.out (by rw [HBK.out,if_neg (fun h => by simp at hB0;omega)]),rfl⟩⟩
   have hB1:B ≠ 0:=by intro e;rw [e] at hB0;cases hB0
   have hBn:=hbn hB1
   have hBn':(B:Int) < (x.n:Int):=by omega
   have b0:(0:Int) ≤ (B:Int):=by omega
   have c0:=(HCS.out _ ST1.out.s.a).1
   have hrg:=RSeg.range ST1.out.s.i B hBn
   have HB1:=Lib.hid hB1
   clear hB0 hbn hB1
   go_wp2_with (first | (refine wp_loadMid rfl 32 (.tmp 39) rfl b (off + B * 256) (bkF x.L B) _ rfl hrg Tryz.underlying32 rfl (by rw [bkF_len];exact info_block) ?_))
   refine (list_any (x.L B) (HX.out.byt B) _).mono ?_
   rintro e w3 ⟨hb3,hl⟩
   have ST3:=Lib.hid (ST1.out.below hb3)
   have HML:=Lib.hid ST1.out.m.lt
   clear ST1 c0 hrg hb3
   rcases hl with ⟨hd,rfl⟩ | ⟨hd,g,hg3,rfl,hA⟩
   ·have HD:=Lib.hid hd
    clear hd
    go_wp2_with fail
    refine (must_no 9 _).mono ?_
    rintro e w4 ⟨rfl,rfl⟩
    exact ⟨rfl,ST3.out.bel,.inl ⟨HNO.out (by rw [HBK.out,if_neg (fun h => by rw [HD.out] at h;cases h.2)]),rfl⟩⟩
   have HD:=Lib.hid hd
   have HB2:Hid (x.dirB' t k (ns,is) = foldO (x.slotF (x.L B)) 8 (ns,is)):=by show _ = _;rw [HBK.out,if_pos ⟨HB1.out,HD.out⟩]
   have hgB:w.heap.size < g:=Nat.lt_of_lt_of_le HML.out hg3
   have HA:Hid (At w3 g 172 (Sc (dI (x.L B)) (dM (x.L B)) 8).toArray):=hA
   have HZ:=Lib.hid (HX.out.byt B)
   obtain ⟨z,hz⟩:∃ z,z = x.L B:=⟨_,rfl⟩
   rw [← hz] at HA HB2 HZ
   clear hd hA hz hg3
   go_wp2_with fail
   refine (must_yes 9 _).mono ?_
   rintro e w4 ⟨rfl,rfl⟩
   go_wp2_with fail
   clear b0 hBn'
   have hal:=zero_slot
   go_loopw [5,49] (fun v u wr => ∃ (j:Nat) (ns':List (List UInt8)) (is':List Nat),j ≤ 8 ∧ u = .int .i64 (j:Int) ∧ foldO (x.slotF z) j (ns,is) = some (ns',is') ∧ DrS w p b off x cs q ns' is' (k * 8 + j) v wr ∧ At wr g 172 (Sc (dI z) (dM z) 8).toArray) (fun _ u _ => 8 - (intOf u).toNat)
   case atStart => exact ⟨0,ns,is,Nat.zero_le _,rfl,rfl,ST3.out,HA.out⟩
   case round =>
    clear ST3 HA
    obtain ⟨j,ns',is',hj,rfl,hfj,st,hbw3⟩:=hrel
    have HFJ:=Lib.hid hfj
    have HN1:=Lib.hid st.n1
    have ST:=Lib.hid st
    have HB3:=Lib.hid hbw3
    clear hfj st
    by_cases hj8:j < 8
    ·have hj':(j:Int) < 8:=by omega
     have j0:(0:Int) ≤ (j:Int):=by omega
     have hr:=(At.slots hbw3).range j hj8
     rw [Nat.zero_add] at hr
     have hdb:=dI_bd HZ.out j
     have hds:=dM_size HZ.out j
     obtain ⟨nm,hnm⟩:∃ nm,nm = dM z j:=⟨_,rfl⟩
     obtain ⟨d,hd⟩:∃ d:Nat,dI z j = (d:Int):=⟨(dI z j).toNat,by omega⟩
     have HSL:Hid (x.slotF z j (ns',is') = if (d:Int) = 0 then some (ns',is') else if nm.data.toList ∉ ns' ∧ d ≤ x.ni ∧ (x.ino d).kind ≠ 0 then some (ns' ++ [nm.data.toList],is' ++ [d]) else none):=by
      show _ = _;unfold Im.slotF;rw [hd,← hnm,Int.toNat_natCast]
     rw [hd,← hnm] at hr
     rw [hd] at hdb
     rw [← hnm] at hds
     have HNO2:Hid (x.slotF z j (ns',is') = none → x.dirF t = none):=fun h => HNO.out (by rw [HB2.out];exact foldO_none HFJ.out h hj8)
     clear hnm hd hbw3
     have hA0:=At.new wr 90 #[.int .u32 0,.string ByteArray.empty]
     have hwsz:=ST.out.bel.size
     go_wp2_with (first | (refine wpList_load_mid rfl 90 _ rfl _ _ rfl _ _ hr Tryz.underlying90 rfl (by kernel_rfl) ?_) | (refine wp_storeAt rfl 90 _ _ rfl _ #[.int .u32 (d:Int),.string nm] _ rfl rfl hA0 (info_slot _ _) rfl (one_slot _ _) ?_))
     intro w5 hA5 ho5
     have hb5:Below wr.heap.size wr w5:=((Below.refl _ _).alloc (Nat.le_refl _) _).trans (ho5.below (Nat.le_refl _))
     have ST5:=Lib.hid (ST.out.below hb5)
     have HB5:=Lib.hid (HB3.out.below hb5 HB3.out.lt)
     obtain ⟨G,hG⟩:∃ G,G = wr.heap.size:=⟨_,rfl⟩
     have hGw:w.heap.size < G:=by rw [hG];exact ST.out.m.lt
     rw [← hG] at hA5 ⊢
     have HA5:=Lib.hid hA5
     have c0:w5.cell? ⟨G,0,none⟩ = some (.int .u32 (d:Int)):=hA5.cell (i:=0) rfl
     have c1:w5.cell? ⟨G,1,none⟩ = some (.string nm):=hA5.cell (i:=1) rfl
     clear hr hA0 ho5 hb5 ST HB3 hG hwsz hA5
     by_cases hd0:d = 0
     ·subst hd0
      have HN:Hid (foldO (x.slotF z) (j + 1) (ns,is) = some (ns',is')):=foldO_next HFJ.out (by rw [HSL.out];rfl)
      clear c1
      go_wp2_with fail
      go_roundw
      case rel => first | exact ⟨j + 1,ns',is',by omega,by first | rfl | go_num,HN.out,ST5.out.more (by omega),HB5.out⟩ | ((repeat apply Exists.intro);exact ⟨⟨j + 1,ns',is',by omega,by first | rfl | go_num,HN.out,ST5.out.more (by omega),HB5.out⟩,rfl⟩)
      case measure => simp [intOf] <;> omega
     have q0:((d:Int) == 0) = false:=by simp;omega
     have HS2:Hid (x.slotF z j (ns',is') = if nm.data.toList ∉ ns' ∧ d ≤ x.ni ∧ (x.ino d).kind ≠ 0 then some (ns' ++ [nm.data.toList],is' ++ [d]) else none):=by show _ = _;rw [HSL.out,if_neg (by omega)]
     have hkey:keyOf Tryz.prog 9 (.string nm) = some (.string nm.data.toList):=keyOf_string_mk Tryz.underlying9 (by unfold maxLen;omega)
     have hown:=ST5.out.m
     obtain ⟨c,hrun,hat,_⟩:=hown.lookup_int law_str Tryz.underlying220 Tryz.underlying3 (zero_i64 _) hkey
     have hk9:k * 8 + j < 600000:=by omega
     by_cases hin:nm.data.toList ∈ ns'
     ·rw [(nmD_at ns' _).1 hin] at hat
      obtain rfl:c = 1:=by injection hat with hat;injection hat with _ hat;exact hat.symm
      have HIN:=Lib.hid hin
      clear hat hin hd0 HSL
      go_wp2_with (first | (at_mapUpdate;refine wpList_mapUpdate_own _ rfl _ _ _ 220 rfl 9 3 law_str Tryz.underlying220 _ w.heap.size (k * 8 + j) _ rfl hown (by unfold maxLen;omega) _ _ _ rfl rfl hkey _ [] (plainElem_int Tryz.underlying3 (by decide)) ?_))
      intro w6 hown6 hg6
      have c1':w6.cell? ⟨G,1,none⟩ = some (.string nm):=(World.cell?_of_block (w:=w5) (hg6.block G HA5.out.lt (fun e => by injection e with e;omega))).trans c1
      obtain ⟨c',hrun',hat',_⟩:=hown6.lookup_int law_str Tryz.underlying220 Tryz.underlying3 (zero_i64 _) hkey
      rw [atKey_put_same (k:=.string nm.data.toList) (nmD_isMap ns') (show WideAt.IsKeyLit (.string nm.data.toList) from trivial)] at hat'
      obtain rfl:c' = 2:=by injection hat' with hat';injection hat' with _ hat';exact hat'.symm
      have gr6:w.grownBy w6 (some p):=(ST5.out.s.new hpw hbw hqw hg6 (fun r e => by injection e with e;omega)).gr
      have bl6:Below w.heap.size w w6:=ST5.out.bel.grown hg6 ST5.out.bel.size (fun r e => by injection e with e;omega)
      clear hat' hown6 hg6 hrun
      go_wp2_with fail
      refine (must_no 9 _).mono ?_
      rintro e w7 ⟨rfl,rfl⟩
      exact ⟨rfl,bl6,.inl ⟨HNO2.out (by rw [HS2.out,if_neg (fun h => h.1 HIN.out)]),rfl⟩⟩
     ·rw [(nmD_at ns' _).2 hin] at hat
      obtain rfl:c = 0:=by injection hat with hat;injection hat with _ hat;exact hat.symm
      have HIN:=Lib.hid hin
      clear hat hin hd0 HSL
      go_wp2_with (first | (at_mapUpdate;refine wpList_mapUpdate_own _ rfl _ _ _ 220 rfl 9 3 law_str Tryz.underlying220 _ w.heap.size (k * 8 + j) _ rfl hown (by unfold maxLen;omega) _ _ _ rfl rfl hkey _ [] (plainElem_int Tryz.underlying3 (by decide)) ?_))
      intro w6 hown6 hg6
      have c1':w6.cell? ⟨G,1,none⟩ = some (.string nm):=(World.cell?_of_block (w:=w5) (hg6.block G HA5.out.lt (fun e => by injection e with e;omega))).trans c1
      obtain ⟨c',hrun',hat',_⟩:=hown6.lookup_int law_str Tryz.underlying220 Tryz.underlying3 (zero_i64 _) hkey
      rw [atKey_put_same (k:=.string nm.data.toList) (nmD_isMap ns') (show WideAt.IsKeyLit (.string nm.data.toList) from trivial)] at hat'
      obtain rfl:c' = 1:=by injection hat' with hat';injection hat' with _ hat';exact hat'.symm
      have ST6:=Lib.hid (ST5.out.name hpw hbw hqw hg6 (by rw [nmD_snoc];exact hown6))
      have HA6:Hid (At w6 G 90 #[.int .u32 (d:Int),.string nm]):=AtGrown HA5.out hg6 (fun e => by injection e with e;omega)
      have HB6:Hid (At w6 g 172 (Sc (dI z) (dM z) 8).toArray):=AtGrown HB5.out hg6 (fun e => by injection e with e;omega)
      clear hat' hown6 hg6 hrun ST5 HA5 HB5 c0 c1 hown
      go_wp2_with fail
      refine (must_yes 9 _).mono ?_
      rintro e w7 ⟨rfl,rfl⟩
      clear c1' hrun' hkey
      have hd9:(d:Int) < 4294967296:=hdb.2
      have d0:(0:Int) ≤ (d:Int):=by omega
      go_wp2_with fail
      refine wp_region_bar2 (DrC w p b off x cs q (ns' ++ [nm.data.toList]) is' (k * 8 + j + 1) u5 g (Sc (dI z) (dM z) 8).toArray G d nm) 10 (by kernel_rfl) (by kernel_rfl) (by kernel_rfl) (by kernel_rfl) (by kernel_rfl) (by decide) (DrC.below ⟨ST6.out,HA6.out,HB6.out⟩ (Below.refl _ _).drew) ?_
      clear ST6 HA6 HB6
      simp only [List.take_succ_cons,List.take_zero,List.drop_succ_cons,List.drop_zero]
      intro hne
      have hcd:∀ y:InW (DrC w p b off x cs q (ns' ++ [nm.data.toList]) is' (k * 8 + j + 1) u5 g (Sc (dI z) (dM z) 8).toArray G d nm),y.W.cell? ⟨G,0,none⟩ = some (.int .u32 (d:Int)):=fun y => y.h.a.cell (i:=0) rfl
      have hci:∀ y:InW (DrC w p b off x cs q (ns' ++ [nm.data.toList]) is' (k * 8 + j + 1) u5 g (Sc (dI z) (dM z) 8).toArray G d nm),y.W.cell? ⟨p,11,none⟩ = some (.slice (some ⟨q,0,none⟩) (x.ni + 1) (x.ni + 1)):=fun y => (HCS.out _ y.h.s.s.a).2
      repeat (first | go_big_quiet_skip | (go_big_quiet_want;go_big_quiet_op;go_big_quiet_on))
      refine wpQuiet_nil ?_
      intro w8 h8
      have ST8:=Lib.hid h8.out
      clear h8 hne hcd hci
      go_wp2_with fail
      refine (must_any 9 (decide ((d:Int) < (x.ni:Int) + 1)) _).mono ?_
      rintro e w9 ⟨hS,rfl⟩
      rcases hS with ⟨hdn,rfl⟩ | ⟨hdn,rfl⟩
      rotate_left
      ·refine ⟨rfl,ST8.out.s.bel,.inl ⟨HNO2.out (by rw [HS2.out,if_neg (fun h => by have:=of_decide_eq_false hdn;omega)]),rfl⟩⟩
      have hdn2:(d:Int) < (x.ni:Int) + 1:=of_decide_eq_true hdn
      have hdn1:d < x.ni + 1:=by omega
      clear hdn
      go_wp2_with fail
      refine wp_region_bar2 (DrC w p b off x cs q (ns' ++ [nm.data.toList]) is' (k * 8 + j + 1) u5 g (Sc (dI z) (dM z) 8).toArray G d nm) 10 (by kernel_rfl) (by kernel_rfl) (by kernel_rfl) (by kernel_rfl) (by kernel_rfl) (by decide) (ST8.out.below (Below.refl _ _).drew) ?_
      clear ST8
      simp only [List.take_succ_cons,List.take_zero,List.drop_succ_cons,List.drop_zero]
      intro hne
      have hcd:∀ y:InW (DrC w p b off x cs q (ns' ++ [nm.data.toList]) is' (k * 8 + j + 1) u5 g (Sc (dI z) (dM z) 8).toArray G d nm),y.W.cell? ⟨G,0,none⟩ = some (.int .u32 (d:Int)):=fun y => y.h.a.cell (i:=0) rfl
      have hci:∀ y:InW (DrC w p b off x cs q (ns' ++ [nm.data.toList]) is' (k * 8 + j + 1) u5 g (Sc (dI z) (dM z) 8).toArray G d nm),y.W.cell? ⟨p,11,none⟩ = some (.slice (some ⟨q,0,none⟩) (x.ni + 1) (x.ni + 1)):=fun y => (HCS.out _ y.h.s.s.a).2
      have hck:∀ y:InW (DrC w p b off x cs q (ns' ++ [nm.data.toList]) is' (k * 8 + j + 1) u5 g (Sc (dI z) (dM z) 8).toArray G d nm),y.W.cell? ⟨q,d * 16,none⟩ = some (.int .u8 (x.ino d).kind):=fun y => y.h.s.s.ino (t:=d) hdn1 0 rfl
      repeat (first | go_big_quiet_skip | (go_big_quiet_want;go_big_quiet_op;go_big_quiet_on))
      refine wpQuiet_nil ?_
      intro w10 h10
      have ST10:=Lib.hid h10.out
      clear h10 hne hcd hci hck
      go_wp2_with fail
      refine (must_any 9 ((x.ino d).kind != 0) _).mono ?_
      rintro e w11 ⟨hS,rfl⟩
      rcases hS with ⟨hkd,rfl⟩ | ⟨hkd,rfl⟩
      rotate_left
      ·refine ⟨rfl,ST10.out.s.bel,.inl ⟨HNO2.out (by rw [HS2.out,if_neg (fun h => h.2.2 (by simpa using hkd))]),rfl⟩⟩
      have HYES:Hid (x.slotF z j (ns',is') = some (ns' ++ [nm.data.toList],is' ++ [d])):=by
       show _ = _
       rw [HS2.out,if_pos ⟨HIN.out,by omega,by simpa using hkd⟩]
      have hcd:=ST10.out.a.cell (i:=0) (v:=.int .u32 (d:Int)) rfl
      have hn1:=ST10.out.s.n1
      have hown:=ST10.out.s.o
      obtain ⟨va,vc,rfl⟩:=RMine.form hown
      obtain ⟨i0,hi0,hz0,hz1,hz2⟩:=info_intP
      have hown2:World.ownsRow (w10.alloc (.cells #[.int .i64 (d:Int)] 3)) (w.heap.size + 1) 3 1 (.slice va is'.length vc) is'.length (Cs (nmF is') is'.length):=World.ownsRow.alloc hown _
      have hnews:∀ i u,([.int .i64 (d:Int)]:List Value)[i]? = some u → (w10.alloc (.cells #[.int .i64 (d:Int)] 3)).cell? ((⟨w10.heap.size,0,none⟩:Addr).add i) = some u:=fun i u hu => by
       cases i with
       | zero =>
        injection hu with hu
        subst hu
        exact (At.new w10 3 #[.int .i64 (d:Int)]).cell (i:=0) rfl
       | succ i => cases hu
      have h1c:∀ u ∈ ([.int .i64 (d:Int)]:List Value),u.oneCell' = true:=fun u hu => by simp at hu;subst hu;rfl
      have hil:is'.length ≤ 600000:=by have:=HN1.out;omega
      have hbase:w.heap.size + 1 ≤ (w10.alloc (.cells #[.int .i64 (d:Int)] 3)).heap.size:=by simp;have:=ST10.out.s.m.lt;omega
      have hWW:Below w10.heap.size w10 (w10.alloc (.cells #[.int .i64 (d:Int)] 3)):=(Below.refl _ _).alloc (Nat.le_refl _) _
      have ST11:=Lib.hid (ST10.out.below hWW)
      have HN:=Lib.hid (foldO_next HFJ.out HYES.out)
      clear ST10 hown hWW hdb HNO2 HS2
      go_wp2_with (first | (refine wpList_slice1 rfl 37 1 0 (.tmp 92) rfl (.int .i64 (d:Int)) rfl _ _ (run_int1c (d:Int) _) ?_) | (refine wpList_append_own _ rfl (.tmp 89) (.tmp 93) 37 rfl (w.heap.size + 1) 3 i0 (.int .i64 0) 1 8 Tryz.underlying37 hi0 hz0 hz1 hz2 rfl (by decide) (.slice va is'.length vc) is'.length _ rfl hown2 ⟨w10.heap.size,0,none⟩ 1 1 [.int .i64 (d:Int)] rfl rfl hnews h1c (by unfold maxLen;omega) (by omega) hbase ?_))
      intro v' w12 ho12 hg12 _
      have STN:=Lib.hid (ST11.out.s.app hpw hbw hqw (d:=d) (by have:=HN1.out;omega) hg12 ho12)
      have GN:=Lib.hid (AtGrown ST11.out.g hg12 (at_own_neS ST11.out.g hown2 (by decide)))
      obtain ⟨ga,gc,rfl⟩:=own_form ho12
      clear ST11 hown2 hnews h1c hbase ho12 hg12 hn1 hcd
      go_wp2_with fail
      go_roundw
      case rel => first | exact ⟨j + 1,_,_,by omega,by first | rfl | go_num,HN.out,STN.out,GN.out⟩ | ((repeat apply Exists.intro);exact ⟨⟨j + 1,_,_,by omega,by first | rfl | go_num,HN.out,STN.out,GN.out⟩,rfl⟩)
      case measure => simp [intOf] <;> omega
    ·obtain rfl:j = 8:=by omega
     have HN:Hid (foldO (x.dirB' t) (k + 1) ([],[]) = some (ns',is')):=foldO_next HFO.out (HB2.out.trans HFJ.out)
     go_wp2_with fail
     go_roundw
     case rel => first | exact ⟨k + 1,ns',is',by omega,by first | rfl | go_num,HN.out,by rw [Nat.succ_mul];exact ST.out⟩ | ((repeat apply Exists.intro);exact ⟨⟨k + 1,ns',is',by omega,by first | rfl | go_num,HN.out,by rw [Nat.succ_mul];exact ST.out⟩,rfl⟩)
     case measure => simp [intOf] <;> omega
  ·obtain rfl:k = N:=by omega
   go_wp2_with fail
   go_ret
   exact ⟨ST.out.bel,.inr ⟨(ns,is),_,by rw [HDF.out];exact HFO.out,rfl,RMine.low ST.out.o (by omega)⟩⟩
end Go.Proofs.YtphamecphmbipaaGreatDoor
