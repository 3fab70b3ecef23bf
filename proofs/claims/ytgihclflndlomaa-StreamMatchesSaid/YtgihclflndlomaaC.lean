/- The deferred call 'caught': a frame that returns is left alone; a frame that panics with an error of the package gets that error as its result. -/
import Derived.Test.YtgihclflndlomaaA
import Derived.Defers
import Derived.Recover
namespace Go.Proofs.Ytgihclflndlomaa
open Go.RowKit

theorem caught_idle (p : Addr) (w : World) :
    CallsD Try.prog 33 #[.pointer (some p)] .returning w fun e u' w' => e = .returned (.tuple #[]) ∧ u' = .returning ∧ w = w' := by
  refine callsD_of_wpS Try.func33 rfl fun c₀ cs hu => ?_
  apply wpS_seq
  apply wpS_region
  simp [wpOpsS, go_sem, recoverD, hu, Try.ntmps33, Exit.thenS]
  refine wpS_of_wp ?_
  go_wp2
  cases c₀
  simp_all [bodyPostS, results, Try.results33]

theorem run_assert (n : Int) (w : World) : (Instr.typeAssert (.iface 96 (.agg #[.int .i64 n])) 20 96 true).run Try.prog w = .ok (.tuple #[.agg #[.int .i64 n], .bool true]) w := by
  kernel_rfl

set_option maxRecDepth 100000 in
set_option maxHeartbeats 400000 in
theorem caught_err (b : Nat) (x : Int) (n : Int) (w : World) (hb : b < w.heap.size) (hc : w.cell? ⟨b, 0, none⟩ = some (.int .i64 x)) (hz : w.frozen? ⟨b, 0, none⟩ = false) :
    CallsD Try.prog 33 #[.pointer (some ⟨b, 0, none⟩)] (.panicking (pe n)) w fun e u' w' =>
      e = .returned (.tuple #[]) ∧ u' = .panicking [{ v := .iface 96 (.agg #[.int .i64 n]), recovered := true }] ∧ w' = (w.alloc (.cells #[.int .i64 n] 96)).setCell ⟨b, 0, none⟩ (.int .i64 n) := by
  refine callsD_of_wpS Try.func33 rfl fun c₀ cs hu => ?_
  unfold pe at hu
  apply wpS_seq
  apply wpS_region
  simp [wpOpsS, go_sem, recoverD, hu, Try.ntmps33, Exit.thenS]
  refine wpS_of_wp ?_
  have hl : #[Value.pointer (some ⟨b, 0, none⟩)] ++ (Array.replicate 14 undef).setIfInBounds 4 (Value.iface 96 (Value.agg #[Value.int IntKind.i64 n])) = #[.pointer (some ⟨b, 0, none⟩), undef, undef, undef, undef, .iface 96 (.agg #[.int .i64 n]), undef, undef, undef, undef, undef, undef, undef, undef, undef] := rfl
  rw [hl]; clear hl
  refine Code.wp_mono (Q := fun e a w' => e = .normal ∧ a.defers = [] ∧ w' = (w.alloc (.cells #[.int .i64 n] 96)).setCell ⟨b, 0, none⟩ (.int .i64 n)) ?_ ?_
  · rintro e a w' ⟨rfl, h2, rfl⟩
    cases c₀
    simp_all [bodyPostS, results, Try.results33]
  · clear hu
    have hta := run_assert
    go_wp2
end Go.Proofs.Ytgihclflndlomaa
