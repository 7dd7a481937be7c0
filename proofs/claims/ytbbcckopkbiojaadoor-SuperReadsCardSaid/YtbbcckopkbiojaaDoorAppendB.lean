/- append of bytes onto a row of bytes of one's own, in this program's own numbers. -/
import Derived.Test.YtbbcckopkbiojaaDoorNumsAny
namespace Go.Proofs.YtbbcckopkbiojaaDoor
open Go.RowKit
theorem info8 : (Tryd.prog.info? 5).map (fun i => (i.zero, i.size, i.bytes)) = some (some (.int .u8 0), 1, 1) := by kernel_rfl
theorem wp_appendB {w : World} {ops : Array Oper} {rest : List Oper} {o : Oper} {a : Act} {Q : Exit → Act → World → Prop} (hgd : o.guard = none) (s x : Operand)
    (ho : o.op = .call { callee := .builtin .append, args := #[s, x], argTypes := #[65, 65] }) (base : Nat)
    (sa : Option Addr) (n cap : Nat) (z : Nat → Int) (hs : a.eval s = .slice sa n cap) (hown : Mine w base 5 sa n cap z)
    (xa : Option Addr) (m c : Nat) (y : Nat → Int) (hx : a.eval x = .slice xa m c) (hc : xa = none → c = 0) (hr : Row w xa m y)
    (hm : n + m ≤ 140737488355328) (hbase : base ≤ w.heap.size)
    (h : ∀ sa' cap' w', Mine w' base 5 sa' (n + m) cap' (cat z n y) → w.grownBy w' (Value.slice sa n cap).ownBlock → (sa' = none → n + m = 0) → wpList Tryd.prog ops Q rest (a.put o.dst (.slice sa' (n + m) cap')) w') :
    wpList Tryd.prog ops Q (o :: rest) a w := by
  obtain ⟨i0, hi, hz0, hz1, hz2⟩ := info_parts info8
  exact wpList_append_bytes hgd s x _ ho base _ i0 Tryd.underlying65 hi hz0 hz1 hz2 sa n cap z hs hown xa m c y hx hc hr hm hbase h
end Go.Proofs.YtbbcckopkbiojaaDoor
