/- do on an open stream: Read. -/
import Derived.Test.YtgihclflndlomaaAk
namespace Go.Proofs.Ytgihclflndlomaa
open Go.RowKit

set_option maxRecDepth 100000 in
set_option maxHeartbeats 1000000 in
theorem do_2 {w : World} {own : Nat → Prop} {bs : Nat} {S : St} {m : Mem} (h : SAtM w own bs S m) (hok : S.Ok) (n wh : Int) (ab : Option Addr) (nb cb : Nat) (b : List UInt8) :
    Calls Try.prog 25 #[.pointer (some ⟨bs, 0, none⟩), .agg #[.int .i64 2, .int .i64 n, .int .i64 wh, .slice ab nb cb]] w (DoPost w own bs (S.act ⟨2, n, wh, b⟩)) := by
  have hlt := h.lt
  have hd : SAtM (doW w 2 n wh ab nb cb) own bs S m := (h.alloc _).alloc _
  have Hc := Lib.hid (read_calls ⟨m, hd⟩ hok n)
  clear h hok hd
  go_enter Try.func25, Try.ntmps25
  go_wp2_with fail
  refine Hc.out.mono ?_
  rintro e w1 ⟨ar, nr, cr, own2, m2, rfl, hs1, hf1, hrow⟩
  have hs : SAt' (doW w 2 n wh ab nb cb) w1 own bs (S.read n).2.2 := ⟨own2, m2, hs1, hf1⟩
  have kc : (convert 22 9 (.slice ar nr cr)).run Try.prog w1 = .ok (.string ⟨(S.read n).1.toArray⟩) w1 := conv_str hrow.rd
  obtain ⟨k0, k1, k2, j0, j1, j2⟩ := do_cells hs hlt
  obtain ⟨g0, g1, g2⟩ := got_cells (v0 := .int .i64 0) (v1 := .string ⟨(S.read n).1.toArray⟩) (v2 := .int .i64 (S.read n).2.1) k0 k1 k2
  have Hs := Lib.hid (do_shut hs hlt (.int .i64 0) (.string ⟨(S.read n).1.toArray⟩) (.int .i64 (S.read n).2.1))
  clear hs hlt hs1 hf1 hrow
  go_wp2_with fail
  refine bodyPost_ret (v := .agg #[.int .i64 0, .string ⟨(S.read n).1.toArray⟩, .int .i64 (S.read n).2.1]) ?_ rfl ⟨rfl, Hs.out⟩
  simp [results, Try.results25, go_sem, g0, g1, g2]
end Go.Proofs.Ytgihclflndlomaa
