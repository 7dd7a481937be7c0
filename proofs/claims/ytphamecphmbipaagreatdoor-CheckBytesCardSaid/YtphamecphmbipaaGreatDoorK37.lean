/- Texts of this claim, merged by a program (a claim may have 60 files): PlG. -/
import Derived.Test.YtphamecphmbipaaGreatDoorK35
import Derived.Test.YtphamecphmbipaaGreatDoorK30
import Derived.Test.YtphamecphmbipaaGreatDoorK36
namespace Go.Proofs.YtphamecphmbipaaGreatDoor
open Go.RowKit
set_option linter.unusedVariables false
namespace MS
theorem takeF_le (x:Im):∀ (f:Nat) (m:MS),(takeF x f m).1 = 0 ∨ (takeF x f m).1 < m.next + f
 | 0,m => .inl rfl
 | f + 1,m => by
  rw [takeF]
  split
  ·right;show m.next < m.next + (f + 1);omega
  ·rcases takeF_le x f { m with next:=m.next + 1 } with h | h
   ·exact .inl h
   ·right
    have h:_ < m.next + 1 + f:=h
    omega
theorem take_le (x:Im) (m:MS):(m.take x).1 ≤ x.n:=by
 rcases takeF_le x (x.n - m.next) m with h | h
 ·show (takeF x (x.n - m.next) m).1 ≤ x.n;omega
 ·show (takeF x (x.n - m.next) m).1 ≤ x.n
  by_cases e:m.next ≤ x.n
  ·omega
  ·have:x.n - m.next = 0:=by omega
   rw [this] at h ⊢
   rw [takeF];exact Nat.zero_le _
theorem hang_ok {x:Im} (hn:x.n ≤ 2048) {y:Ino} (hy:y.Ok) (i:Int) (m:MS):(hang x y i m).2.1.Ok ∧ (hang x y i m).2.1.kind = y.kind:=by
 unfold hang
 split
 ·exact ⟨hy,rfl⟩
 ·split
  ·refine ⟨⟨hy.kind,hy.links,hy.gen,hy.size,fun q => ?_,hy.next⟩,rfl⟩
   dsimp only
   split
   ·have:=take_le x m;omega
   ·exact hy.p q
  ·exact ⟨hy,rfl⟩
end MS
namespace PlanD
theorem itr_inv {α:Type} (Q:α → Prop) {f:Nat → α → α}:∀ (n:Nat) (a:α),Q a → (∀ k b,k < n → Q b → Q (f k b)) → Q (itr f n a)
 | 0,_,h,_ => h
 | n + 1,a,h,hs => hs n _ (by omega) (itr_inv Q n a h fun k b hk hb => hs k b (by omega) hb)
theorem inoH_ok (P:PlanD) {x:Im} (hn:x.n ≤ 2048) {l:List Slt} (hl:l.length ≤ 4000) (i:Nat) {h:HS} (hy:h.y.Ok):(P.inoH x l i h).y.Ok:=by
 unfold inoH
 split
 ·refine itr_inv (fun h:HS => h.y.Ok) _ _ ?_ fun k b hk hb => ?_
  ·exact ⟨hy.kind,hy.links,hy.gen,by dsimp only;omega,hy.p,hy.next⟩
  ·exact (MS.hang_ok hn hb _ _).1
 ·split
  ·exact hy
  ·exact itr_inv (fun h:HS => h.y.Ok) _ _ hy fun k b hk hb => (MS.hang_ok hn hb _ _).1
theorem fill_ok (P:PlanD) {x:Im} (hn:x.n ≤ 2048) {a:IS} {m:MS} (ha:∀ t,(a.ino t).Ok) (hl:∀ t,(a.sl t).length ≤ 4000):∀ k t,((P.fill x a m k).ino t).Ok
 | 0,t => ha t
 | k + 1,t => by
  have ih:=fill_ok P hn ha hl (m:=m) k
  show ((P.fillF x a.sl k (P.fill x a m k)).ino t).Ok
  unfold fillF updN
  dsimp only
  split
  ·exact inoH_ok P hn (hl k) k (ih k)
  ·exact ih t
theorem name_len (P:PlanD) (N i:Nat):∀ (s:Nat) (a:IS) (t:Nat),((itr (P.nameF N i) s a).sl t).length ≤ (a.sl t).length + s ∧ ∀ e,e ∈ (itr (P.nameF N i) s a).sl t → e ∈ a.sl t ∨ e.1 = i + 1
 | 0,a,t => ⟨Nat.le_refl _,fun e h => .inl h⟩
 | s + 1,a,t => by
  obtain ⟨h1,h2⟩:=name_len P N i s a t
  show ((P.nameF N i s (itr (P.nameF N i) s a)).sl t).length ≤ _ ∧ ∀ e,e ∈ (P.nameF N i s (itr (P.nameF N i) s a)).sl t → _
  generalize itr (P.nameF N i) s a = b at h1 h2 ⊢
  unfold nameF
  split
  ·unfold updN
   dsimp only
   split
   ·rename_i e
    subst e
    refine ⟨by rw [List.length_append];show _ + 1 ≤ _;omega,fun e he => ?_⟩
    rcases List.mem_append.1 he with h | h
    ·exact h2 e h
    ·right;rw [List.mem_singleton.1 h]
   ·exact ⟨by omega,h2⟩
  ·exact ⟨by omega,h2⟩
theorem isF_len (P:PlanD) (N:Nat):∀ (k t:Nat),((P.isF N k).sl t).length ≤ P.cn k ∧ ∀ e,e ∈ (P.isF N k).sl t → e.1 ≤ k + 1
 | 0,t => ⟨Nat.le_refl _,fun e h => absurd h (List.not_mem_nil)⟩
 | k + 1,t => by
  obtain ⟨h1,h2⟩:=isF_len P N k t
  obtain ⟨g1,g2⟩:=name_len P N (k + 1) (P.f k).nn { P.isF N k with ino:=updN (P.isF N k).ino (k + 1) ⟨(P.f k).kind,(P.f k).links,((k + 1:Nat):Int),(P.f k).size,fun _ => 0,0⟩ } t
  refine ⟨?_,fun e he => ?_⟩
  ·refine Nat.le_trans g1 ?_
   rw [cn]
   show ((P.isF N k).sl t).length + _ ≤ _
   omega
  ·rcases g2 e he with h | h
   ·have:=h2 e h;omega
   ·omega
theorem wrap_bd (v:Int):-9223372036854775808 ≤ IntKind.i64.wrap v ∧ IntKind.i64.wrap v ≤ 9223372036854775807:=by
 have e:IntKind.i64.wrap v = if v % 18446744073709551616 ≥ 9223372036854775808 then v % 18446744073709551616 - 18446744073709551616 else v % 18446744073709551616:=by
  simp [IntKind.wrap,IntKind.bits,IntKind.signed]
 rw [e]
 split <;> omega
theorem wrap64_eq (v:Int):wrap64 v = IntKind.i64.wrap v:=by
 have e:IntKind.i64.wrap v = if v % 18446744073709551616 ≥ 9223372036854775808 then v % 18446744073709551616 - 18446744073709551616 else v % 18446744073709551616:=by
  simp [IntKind.wrap,IntKind.bits,IntKind.signed]
 rw [e]
 unfold wrap64
 split <;> omega
theorem name_ok (P:PlanD) (N i:Nat) (s:Nat) (a:IS) (ha:∀ t,(a.ino t).Ok ∧ ∀ q,(a.ino t).p q = 0):∀ t,((itr (P.nameF N i) s a).ino t).Ok ∧ ∀ q,((itr (P.nameF N i) s a).ino t).p q = 0:=by
 refine itr_inv (fun a:IS => ∀ t,(a.ino t).Ok ∧ ∀ q,(a.ino t).p q = 0) s a ha fun k b hk hb t => ?_
 unfold nameF
 split
 ·unfold updN
  dsimp only
  split
  ·exact ⟨⟨(hb i).1.kind,wrap_bd _,(hb i).1.gen,(hb i).1.size,(hb i).1.p,(hb i).1.next⟩,(hb i).2⟩
  ·exact hb t
 ·exact hb t
theorem isF_ok (P:PlanD) (hB:P.Bd) (N:Nat):∀ k,k ≤ 4096 → ∀ t,((P.isF N k).ino t).Ok ∧ ∀ q,((P.isF N k).ino t).p q = 0
 | 0,_,t => by
  show (is0.ino t).Ok ∧ ∀ q,(is0.ino t).p q = 0
  unfold is0 updN
  dsimp only
  split
  ·exact ⟨⟨by decide,by decide,by decide,by decide,fun i => ⟨Int.le_refl 0,(by decide:(0:Int) < 4294967296)⟩,by decide⟩,fun q => rfl⟩
  ·exact ⟨⟨by decide,by decide,by decide,by decide,fun i => ⟨Int.le_refl 0,(by decide:(0:Int) < 4294967296)⟩,by decide⟩,fun q => rfl⟩
 | k + 1,hk,t => by
  have ih:=isF_ok P hB N k (by omega)
  refine name_ok P N (k + 1) (P.f k).nn { P.isF N k with ino:=updN (P.isF N k).ino (k + 1) ⟨(P.f k).kind,(P.f k).links,((k + 1:Nat):Int),(P.f k).size,fun _ => 0,0⟩ } (fun t => ?_) t
  unfold updN
  dsimp only
  split
  ·exact ⟨⟨hB.kind k,hB.links k,by dsimp only;omega,hB.size k,fun i => ⟨Int.le_refl 0,(by decide:(0:Int) < 4294967296)⟩,⟨Int.le_refl 0,(by decide:(0:Int) < 4294967296)⟩⟩,fun _ => rfl⟩
  ·exact ih t
theorem cn_mono (P:PlanD) {k n:Nat} (h:k < n):P.cn (k + 1) ≤ P.cn n:=by
 induction n with
 | zero => omega
 | succ n ih =>
  by_cases e:k = n
  ·subst e;exact Nat.le_refl _
  ·have:=ih (by omega)
   rw [cn.eq_2 P n]
   omega
def partF (P:PlanD) (N k t:Nat):IS:=itr (P.nameF N (k + 1)) t { P.isF N k with ino:=updN (P.isF N k).ino (k + 1) ⟨(P.f k).kind,(P.f k).links,((k + 1:Nat):Int),(P.f k).size,fun _ => 0,0⟩ }
theorem part_len (P:PlanD) (N k t r:Nat) (hS:P.cn (k + 1) ≤ 1000) (ht:t ≤ (P.f k).nn):((P.partF N k t).sl r).length ≤ 1000:=by
 refine Nat.le_trans (name_len P N (k + 1) t _ r).1 (Nat.le_trans (Nat.add_le_add (isF_len P N k r).1 ht) ?_)
 rw [cn] at hS
 omega
theorem img_end (P:PlanD) (x:Im):P.img x = P.endL x (P.fill x ⟨(P.isF (P.n x) (P.n x)).ino,(P.isF (P.n x) (P.n x)).sl⟩ ⟨mkB x.g x.s x.i x.j,0⟩ (P.n x + 1)).m.L (P.fill x ⟨(P.isF (P.n x) (P.n x)).ino,(P.isF (P.n x) (P.n x)).sl⟩ ⟨mkB x.g x.s x.i x.j,0⟩ (P.n x + 1)).ino (P.n x):=rfl
end PlanD
def obk (a:Option Addr):Option Nat:=(Value.slice a 0 0).ownBlock
theorem obk_eq (a:Option Addr) (n c:Nat):(Value.slice a n c).ownBlock = obk a:=by cases a <;> rfl
theorem run_append_far {P:Program} (w:World) (base:Nat) (t ty e:TypeId) (i:TypeInfo) (z:Value) (size bytes:Nat) (ht:P.underlying t = some (.slice e)) (hi:P.info? e = some i) (hz:i.zero = some z)
  (hsize:i.size = size) (hby:i.bytes = bytes) (hzs:z.cells.size = size) (hsz:0 < size) (v:Value) (n:Nat) (xs:List Value) (hown:w.ownsRow base e size v n xs)
  (a:Addr) (m c:Nat) (news:List Value) (hl:news.length = m * size) (hnews:∀ j u,news[j]? = some u → w.cell? (a.add j) = some u) (h1:∀ u ∈ news,u.oneCell' = true)
  (h63:n + m ≤ maxLen) (hbytes:(n + m) * bytes ≤ 140737488355328) (hbase:base ≤ w.heap.size) (hm:0 < m) :
  ∃ v' w',(Builtin.append_ #[t,t] ty #[v,.slice (some a) m c]).run P w = .ok v' w' ∧ w'.ownsRow base e size v' (n + m) (xs ++ news) ∧ w.grownBy w' v.ownBlock ∧ (v'.ownBlock = v.ownBlock ∨ v'.ownBlock = some w.heap.size):=by
 obtain ⟨v',w',hr,h2,h3,_⟩:=run_append_own (P:=P) w base t ty e i z size bytes ht hi hz hsize hby hzs hsz v n xs hown a m c news hl hnews h1 h63 hbytes hbase
 refine ⟨v',w',hr,h2,h3,?_⟩
 subst hsize hby
 have h63':n + m ≤ 9223372036854775807:=by simp only [maxLen] at h63;omega
 rcases hown.2 with ⟨rfl,rfl⟩ | ⟨g,cap,cur,rfl,hbg,hg,hnc,hcm,hcs,htake⟩
 ·have hr2:=run_append_nil (P:=P) w t ty e i z ht hi hz a m c news hl hnews (by omega) (by omega) (by have hb:=hbytes;simp only [Nat.zero_add] at hb;omega)
  rw [hr] at hr2
  injection hr2 with e1 e2
  right;rw [e1];rfl
 ·by_cases hroom:n + m ≤ cap
  ·have hfit:n * i.size + news.length ≤ cur.size:=by rw [hl,hcs,← Nat.add_mul];exact Nat.mul_le_mul_right _ hroom
   have hr2:=run_append_room (P:=P) w t ty e i ht hi g n cap cur hg a m c news hl hnews h1 hroom hfit
   rw [hr] at hr2
   injection hr2 with e1 e2
   left;rw [e1];rfl
  ·have holds:∀ j u,xs[j]? = some u → w.cell? ((⟨g,0,none⟩:Addr).add j) = some u:=hown.cells (g:=g) rfl
   have hr2:=run_append_grow (P:=P) w t ty e i z ht hi hz ⟨g,0,none⟩ n cap xs hown.1 holds a m c news hl hnews (by omega) (by omega) (growslice_fits (by omega) hbytes)
   rw [hr] at hr2
   injection hr2 with e1 e2
   right;rw [e1];rfl
structure SlU (W:World) (base sb n:Nat) (sl:Nat → List Slt) (a:Nat → Option Addr) (c:Nat → Nat):Prop where
 u:RArr W sb 88 1 n (fun t => [.slice (a t) (sl t).length (c t)])
 r:∀ t,t < n → RMine W base 90 2 (.slice (a t) (sl t).length (c t)) (sl t).length (slvL (sl t))
 ne:∀ s t,s < n → t < n → s ≠ t → obk (a s) = none ∨ obk (a s) ≠ obk (a t)
theorem SlU.below {W W':World} {base sb n:Nat} {sl:Nat → List Slt} {a:Nat → Option Addr} {c:Nat → Nat} (h:SlU W base sb n sl a c) (hb:Below W.heap.size W W'):SlU W' base sb n sl a c :=
 ⟨h.u.below hb,fun t ht => (h.r t ht).below hb,h.ne⟩
structure ImC (M q Y N p:Nat) (x:Im) (m:MS) (ys:Nat → Ino) (d:PlAd) (P:PlanD) (w W:World):Prop where
 pm:PlM M q x m W
 y:RArr W Y 63 16 N (inF7 ys)
 bx:At W p 27 (plRow x.g x.s x.i x.j d P)
 r:PlnR w.heap.size d P W
 bel:Below w.heap.size w W
 le:w.heap.size ≤ M ∧ w.heap.size ≤ q ∧ w.heap.size ≤ Y ∧ w.heap.size ≤ p
section
variable {M q Y N p:Nat} {x:Im} {m:MS} {ys:Nat → Ino} {d:PlAd} {P:PlanD} {w W W':World}
theorem ImC.grown (h:ImC M q Y N p x m ys d P w W) {row:Option Nat} (hg:W.grownBy W' row) (hr:∀ r,row = some r → w.heap.size ≤ r ∧ r ≠ M ∧ r ≠ q ∧ r ≠ Y ∧ r ≠ p):ImC M q Y N p x m ys d P w W':=by
 obtain ⟨f,hf⟩:=h.pm.k
 have hb:Below w.heap.size W W':=(Below.refl _ _).grown hg h.bel.size (fun r e => (hr r e).1)
 exact ⟨⟨⟨f,AtGrown hf hg fun e => (hr _ e).2.1 rfl⟩,h.pm.im.grown hg fun e => (hr _ e.symm).2.2.1 rfl⟩,h.y.grown hg fun e => (hr _ e.symm).2.2.2.1 rfl,AtGrown h.bx hg fun e => (hr _ e).2.2.2.2 rfl,h.r.below hb,h.bel.trans hb,h.le⟩
theorem ImC.below (h:ImC M q Y N p x m ys d P w W) (hb:Below W.heap.size W W'):ImC M q Y N p x m ys d P w W' :=
 h.grown (row:=none) (grown_below hb) (fun r e => by cases e)
theorem ImC.only (h:ImC M q Y N p x m ys d P w W) {g:Nat} (hg:Only g W W') (hr:w.heap.size ≤ g ∧ g ≠ M ∧ g ≠ q ∧ g ≠ Y ∧ g ≠ p):ImC M q Y N p x m ys d P w W' :=
 h.grown (row:=some g) (grown_only hg) (fun r e => by injection e with e;exact e ▸ hr)
theorem ImC.neY (h:ImC M q Y N p x m ys d P w W):M ≠ Y ∧ q ≠ Y ∧ p ≠ Y:=by
 obtain ⟨f,hf⟩:=h.pm.k
 obtain ⟨c1,h1,_⟩:=h.pm.im.blk
 obtain ⟨cs,hc,_⟩:=h.y.blk
 exact ⟨At.unlike hf hc (by decide),At.unlike h1 hc (by decide),At.unlike h.bx hc (by decide)⟩
theorem ImC.putI (h:ImC M q Y N p x m ys d P w W) {i:Nat} (hi:i < N) (y:Ino) (hW:W' = W.setCells Y (i * 16) y.arr.toList):ImC M q Y N p x m (updN ys i y) d P w W' ∧ Only Y W W':=by
 subst hW
 obtain ⟨h1,h2⟩:=h.y.set hi (vs:=y.arr.toList) rfl (fun _ => rfl)
 obtain ⟨n1,n2,n3⟩:=h.neY
 obtain ⟨f,hf⟩:=h.pm.k
 have hb:Below w.heap.size W (W.setCells Y (i * 16) y.arr.toList):=h2.below h.le.2.2.1
 refine ⟨⟨⟨⟨f,hf.only h2 n1⟩,h.pm.im.only h2 n2⟩,h1.congr fun j _ => ?_,h.bx.only h2 n3,h.r.below hb,h.bel.trans hb,h.le⟩,h2⟩
 unfold inF7 updN
 split <;> rfl
theorem ImC.putL (h:ImC M q Y N p x m ys d P w W) {i:Nat} (hi:i < N) (v:Int):ImC M q Y N p x m (updN ys i { ys i with links:=v }) d P w (W.setCell ⟨Y,i * 16 + 1,none⟩ (.int .i64 v)) ∧ Only Y W (W.setCell ⟨Y,i * 16 + 1,none⟩ (.int .i64 v)):=by
 have ho:Only Y W (W.setCell ⟨Y,i * 16 + 1,none⟩ (.int .i64 v)):=Only.setCell W ⟨Y,i * 16 + 1,none⟩ (.int .i64 v)
 obtain ⟨n1,n2,n3⟩:=h.neY
 obtain ⟨f,hf⟩:=h.pm.k
 have hb:Below w.heap.size W (W.setCell ⟨Y,i * 16 + 1,none⟩ (.int .i64 v)):=ho.below h.le.2.2.1
 refine ⟨⟨⟨⟨f,hf.only ho n1⟩,h.pm.im.only ho n2⟩,?_,h.bx.only ho n3,h.r.below hb,h.bel.trans hb,h.le⟩,ho⟩
 have:=h.y.cellset (k:=i) (j:=1) hi (by omega) (fun j => inF7_len ys j) (.int .i64 v)
 refine this.congr fun j hj => ?_
 unfold inF7 updN
 by_cases e:j = i
 ·subst e;rw [if_pos rfl,if_pos rfl];rfl
 ·rw [if_neg e,if_neg e]
theorem ImC.links (h:ImC M q Y N p x m ys d P w W) {i:Nat} (hi:i < N):W.cell? ⟨Y,i * 16 + 1,none⟩ = some (.int .i64 (ys i).links):=by
 have:=h.y.seg i hi 1 _ rfl
 rwa [Nat.zero_add] at this
end
end Go.Proofs.YtphamecphmbipaaGreatDoor
