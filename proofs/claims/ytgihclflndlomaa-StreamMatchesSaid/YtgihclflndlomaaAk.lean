/- do on an open stream: Clear. -/
import Derived.Test.YtgihclflndlomaaAj
namespace Go.Proofs.Ytgihclflndlomaa
open Go.RowKit

set_option maxRecDepth 100000 in
set_option maxHeartbeats 1000000 in
theorem do_7 {w : World} {own : Nat → Prop} {bs : Nat} {S : St} {m : Mem} (h : SAtM w own bs S m) (n wh : Int) (ab : Option Addr) (nb cb : Nat) (b : List UInt8) :
    Calls Try.prog 25 #[.pointer (some ⟨bs, 0, none⟩), .agg #[.int .i64 7, .int .i64 n, .int .i64 wh, .slice ab nb cb]] w (DoPost w own bs (S.act ⟨7, n, wh, b⟩)) := by
  have hlt := h.lt
  have hd : SAtM (doW w 7 n wh ab nb cb) own bs S m := (h.alloc _).alloc _
  have Hc := Lib.hid (clear_calls hd)
  clear h hd
  go_enter Try.func25, Try.ntmps25
  go_wp2_with fail
  refine Hc.out.mono ?_
  rintro e w1 ⟨rfl, hs⟩
  obtain ⟨k0, k1, k2, j0, j1, j2⟩ := do_cells hs hlt
  obtain ⟨g0, g1, g2⟩ := got_cells (v0 := .int .i64 0) (v1 := .string ⟨#[]⟩) (v2 := .int .i64 0) k0 k1 k2
  have Hs := Lib.hid (do_shut hs hlt (.int .i64 0) (.string ⟨#[]⟩) (.int .i64 0))
  clear hs hlt
  go_wp2_with fail
  refine bodyPost_ret (v := .agg #[.int .i64 0, .string ⟨#[]⟩, .int .i64 0]) ?_ rfl ⟨rfl, Hs.out⟩
  simp [results, Try.results25, go_sem, g0, g1, g2]
end Go.Proofs.Ytgihclflndlomaa
