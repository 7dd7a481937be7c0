/- The walk of the law JblockBack. -/
import Derived.Test.YtahobhifafiaeaaW9f0
import Derived.Test.YtahobhifafiaeaaW9f1
import Derived.Test.YtahobhifafiaeaaW9f2
import Derived.Test.YtahobhifafiaeaaW9f3
namespace Go.Proofs.Ytahobhifafiaeaa
open Go.RowKit
set_option linter.unusedVariables false

set_option maxRecDepth 100000 in
set_option maxHeartbeats 2000000 in
theorem back9_walk (s t n v : Int) (la ma : Option Addr) (ln lcap mn mcap : Nat) (tb mm : Nat → Int) (te : Nat → Bool) (hs : 0 ≤ s ∧ s < 4294967296) (ht : -9223372036854775808 ≤ t ∧ t ≤ 9223372036854775807) (hn : -9223372036854775808 ≤ n ∧ n ≤ 9223372036854775807) (hv : 0 ≤ v ∧ v < 4294967296)
    (htb : Wds tb) (hmm : Wds mm) (hln : (ln : Int) ≤ 9223372036854775807) (hmn : (mn : Int) ≤ 9223372036854775807) (w : World) (hTl : TagRow w la ln tb te) (hTm : NumRow w ma mn mm) :
    Calls Try.prog 9 #[.agg #[.int .u32 s, .int .i64 t], .slice la ln lcap, .slice ma mn mcap, .int .i64 n, .int .u32 v] w fun e w' => e = .returned (.bool true) ∧ Below w.heap.size w w' := by
  by_cases hl1 : ln ≤ 1000
  · by_cases hm1 : mn ≤ 1000
    · cases hE : headOk s t <;> cases hF : descOk s ln tb <;> cases hG : revOk s mn mm <;> cases hI : commitOk s n
      · exact back9_0000 s t n v la ma ln lcap mn mcap tb mm te hs ht hn hv htb hmm hl1 hm1 w hTl hTm hE hF hG hI
      · exact back9_0001 s t n v la ma ln lcap mn mcap tb mm te hs ht hn hv htb hmm hl1 hm1 w hTl hTm hE hF hG hI
      · exact back9_0010 s t n v la ma ln lcap mn mcap tb mm te hs ht hn hv htb hmm hl1 hm1 w hTl hTm hE hF hG hI
      · exact back9_0011 s t n v la ma ln lcap mn mcap tb mm te hs ht hn hv htb hmm hl1 hm1 w hTl hTm hE hF hG hI
      · exact back9_0100 s t n v la ma ln lcap mn mcap tb mm te hs ht hn hv htb hmm hl1 hm1 w hTl hTm hE hF hG hI
      · exact back9_0101 s t n v la ma ln lcap mn mcap tb mm te hs ht hn hv htb hmm hl1 hm1 w hTl hTm hE hF hG hI
      · exact back9_0110 s t n v la ma ln lcap mn mcap tb mm te hs ht hn hv htb hmm hl1 hm1 w hTl hTm hE hF hG hI
      · exact back9_0111 s t n v la ma ln lcap mn mcap tb mm te hs ht hn hv htb hmm hl1 hm1 w hTl hTm hE hF hG hI
      · exact back9_1000 s t n v la ma ln lcap mn mcap tb mm te hs ht hn hv htb hmm hl1 hm1 w hTl hTm hE hF hG hI
      · exact back9_1001 s t n v la ma ln lcap mn mcap tb mm te hs ht hn hv htb hmm hl1 hm1 w hTl hTm hE hF hG hI
      · exact back9_1010 s t n v la ma ln lcap mn mcap tb mm te hs ht hn hv htb hmm hl1 hm1 w hTl hTm hE hF hG hI
      · exact back9_1011 s t n v la ma ln lcap mn mcap tb mm te hs ht hn hv htb hmm hl1 hm1 w hTl hTm hE hF hG hI
      · exact back9_1100 s t n v la ma ln lcap mn mcap tb mm te hs ht hn hv htb hmm hl1 hm1 w hTl hTm hE hF hG hI
      · exact back9_1101 s t n v la ma ln lcap mn mcap tb mm te hs ht hn hv htb hmm hl1 hm1 w hTl hTm hE hF hG hI
      · exact back9_1110 s t n v la ma ln lcap mn mcap tb mm te hs ht hn hv htb hmm hl1 hm1 w hTl hTm hE hF hG hI
      · exact back9_1111 s t n v la ma ln lcap mn mcap tb mm te hs ht hn hv htb hmm hl1 hm1 w hTl hTm hE hF hG hI
    · have d1 : ¬ (1000 : Int) < (ln : Int) := by omega
      have d2 : (1000 : Int) < (mn : Int) := by omega
      have hb0 : Hid (Below w.heap.size w (w.alloc (.cells #[.int .u32 s, .int .i64 t] 24))) := (Below.refl _ _).alloc (Nat.le_refl _) _
      clear hTl hTm htb hmm
      go_enter Try.func9, Try.ntmps9
      go_wp2_with fail
      refine (awake9 _).mono ?_
      rintro e w1 ⟨rfl, hb1⟩
      have hL1 : Below w.heap.size w w1 := hb0.out.trans (hb1.mono hb0.out.size)
      go_wp2_with fail
      go_ret
      exact ⟨rfl, hL1⟩
  · have d1 : (1000 : Int) < (ln : Int) := by omega
    have hb0 : Hid (Below w.heap.size w (w.alloc (.cells #[.int .u32 s, .int .i64 t] 24))) := (Below.refl _ _).alloc (Nat.le_refl _) _
    clear hTl hTm htb hmm
    go_enter Try.func9, Try.ntmps9
    go_wp2_with fail
    refine (awake9 _).mono ?_
    rintro e w1 ⟨rfl, hb1⟩
    have hL1 : Below w.heap.size w w1 := hb0.out.trans (hb1.mono hb0.out.size)
    go_wp2_with fail
    go_ret
    exact ⟨rfl, hL1⟩
end Go.Proofs.Ytahobhifafiaeaa
