/- Slices of slices of bytes: what 's[k:]' is, in this program's own numbers. -/
import Derived.Test.YtbbcckopkbiojaaDoorAppendB
import Derived.Test.YtbbcckopkbiojaaDoorMore
namespace Go.Proofs.YtbbcckopkbiojaaDoor
open Go.RowKit
/-- where 's[k:]' begins -/
def slAt (a : Option Addr) (k cap : Nat) : Option Addr := if cap = k then a else a.map (·.add k)
theorem Row.slice {w : World} {a : Option Addr} {len cap k : Nat} {z : Nat → Int} (h : Row w a len z) (hk : k ≤ len) (hc : len ≤ cap) : Row w (slAt a k cap) (len - k) (fun i => z (k + i)) := by
  by_cases h0 : len - k = 0
  · exact .inl h0
  · rcases h with h | ⟨b, off, rfl, hs⟩
    · omega
    · unfold slAt
      rw [if_neg (by omega)]
      refine .inr ⟨b, off + k, ?_, hs.sub k _ (by omega)⟩
      simp only [Option.map_some, Addr.add]
      by_cases hk0 : k = 0
      · subst hk0; rw [if_pos rfl, Nat.add_zero]
      · rw [if_neg hk0]
theorem run_sl_low (a : Option Addr) (len cap k : Nat) (K : Int) (hK : K = (k : Int)) (hk : k ≤ len) (w : World) :
    (Instr.slice 65 (.slice a len cap) (some (.int .i64 K)) none none).run Tryd.prog w = .ok (.slice (slAt a k cap) (len - k) (cap - k)) w := by
  subst hK
  have hsz : (sizeOf 5).run Tryd.prog w = .ok 1 w := by kernel_rfl
  rw [run_slice_l w 65 a len cap (by kernel_rfl) .i64 (k : Int) (by omega) (by omega), show Tryd.prog.elem 65 = 5 from by kernel_rfl, hsz]
  simp only [Result.andThen, sliced, slAt, Int.toNat_natCast, Nat.mul_one]
end Go.Proofs.YtbbcckopkbiojaaDoor
