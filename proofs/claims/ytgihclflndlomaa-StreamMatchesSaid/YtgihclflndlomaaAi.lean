/- do on an open stream: the calls that give an error alone. -/
import Derived.Test.YtgihclflndlomaaAh
namespace Go.Proofs.Ytgihclflndlomaa
open Go.RowKit

set_option maxRecDepth 100000 in
set_option maxHeartbeats 1000000 in
theorem do_4 {w : World} {own : Nat → Prop} {bs : Nat} {S : St} {m : Mem} (h : SAtM w own bs S m) (hok : S.Ok) (n wh : Int) (ab : Option Addr) (nb cb : Nat) (b : List UInt8) :
    Calls Try.prog 25 #[.pointer (some ⟨bs, 0, none⟩), .agg #[.int .i64 4, .int .i64 n, .int .i64 wh, .slice ab nb cb]] w (DoPost w own bs (S.act ⟨4, n, wh, b⟩)) := by
  have hlt := h.lt
  have hd : SAtM (doW w 4 n wh ab nb cb) own bs S m := (h.alloc _).alloc _
  have Hc := Lib.hid (flush_calls ⟨m, hd⟩ hok)
  clear h hok hd
  go_enter Try.func25, Try.ntmps25
  go_wp2_with fail
  refine Hc.out.mono ?_
  rintro e w1 ⟨rfl, hs⟩
  obtain ⟨k0, k1, k2, j0, j1, j2⟩ := do_cells hs hlt
  obtain ⟨g0, g1, g2⟩ := got_cells (v0 := .int .i64 0) (v1 := .string ⟨#[]⟩) (v2 := .int .i64 S.flush.1) k0 k1 k2
  have Hs := Lib.hid (do_shut hs hlt (.int .i64 0) (.string ⟨#[]⟩) (.int .i64 S.flush.1))
  clear hs hlt
  go_wp2_with fail
  refine bodyPost_ret (v := .agg #[.int .i64 0, .string ⟨#[]⟩, .int .i64 S.flush.1]) ?_ rfl ⟨rfl, Hs.out⟩
  simp [results, Try.results25, go_sem, g0, g1, g2]

set_option maxRecDepth 100000 in
set_option maxHeartbeats 1000000 in
theorem do_8 {w : World} {own : Nat → Prop} {bs : Nat} {S : St} {m : Mem} (h : SAtM w own bs S m) (hok : S.Ok) (n wh : Int) (ab : Option Addr) (nb cb : Nat) (b : List UInt8) :
    Calls Try.prog 25 #[.pointer (some ⟨bs, 0, none⟩), .agg #[.int .i64 8, .int .i64 n, .int .i64 wh, .slice ab nb cb]] w (DoPost w own bs (S.act ⟨8, n, wh, b⟩)) := by
  have hlt := h.lt
  have hd : SAtM (doW w 8 n wh ab nb cb) own bs S m := (h.alloc _).alloc _
  have Hc := Lib.hid (close_calls ⟨m, hd⟩ hok)
  clear h hok hd
  go_enter Try.func25, Try.ntmps25
  go_wp2_with fail
  refine Hc.out.mono ?_
  rintro e w1 ⟨rfl, hs⟩
  obtain ⟨k0, k1, k2, j0, j1, j2⟩ := do_cells hs hlt
  obtain ⟨g0, g1, g2⟩ := got_cells (v0 := .int .i64 0) (v1 := .string ⟨#[]⟩) (v2 := .int .i64 S.close.1) k0 k1 k2
  have Hs := Lib.hid (do_shut hs hlt (.int .i64 0) (.string ⟨#[]⟩) (.int .i64 S.close.1))
  clear hs hlt
  go_wp2_with fail
  refine bodyPost_ret (v := .agg #[.int .i64 0, .string ⟨#[]⟩, .int .i64 S.close.1]) ?_ rfl ⟨rfl, Hs.out⟩
  simp [results, Try.results25, go_sem, g0, g1, g2]

set_option maxRecDepth 100000 in
set_option maxHeartbeats 1000000 in
theorem do_5 {w : World} {own : Nat → Prop} {bs : Nat} {S : St} {m : Mem} (h : SAtM w own bs S m) (hok : S.Ok) (n wh : Int) (ab : Option Addr) (nb cb : Nat) (b : List UInt8) :
    Calls Try.prog 25 #[.pointer (some ⟨bs, 0, none⟩), .agg #[.int .i64 5, .int .i64 n, .int .i64 wh, .slice ab nb cb]] w (DoPost w own bs (S.act ⟨5, n, wh, b⟩)) := by
  have hlt := h.lt
  have hd : SAtM (doW w 5 n wh ab nb cb) own bs S m := (h.alloc _).alloc _
  have Hc := Lib.hid (seek_calls ⟨m, hd⟩ hok n wh)
  clear h hok hd
  go_enter Try.func25, Try.ntmps25
  go_wp2_with fail
  refine Hc.out.mono ?_
  rintro e w1 ⟨rfl, hs⟩
  obtain ⟨k0, k1, k2, j0, j1, j2⟩ := do_cells hs hlt
  obtain ⟨g0, g1, g2⟩ := got_cells (v0 := .int .i64 0) (v1 := .string ⟨#[]⟩) (v2 := .int .i64 (S.seek n wh).1) k0 k1 k2
  have Hs := Lib.hid (do_shut hs hlt (.int .i64 0) (.string ⟨#[]⟩) (.int .i64 (S.seek n wh).1))
  clear hs hlt
  go_wp2_with fail
  refine bodyPost_ret (v := .agg #[.int .i64 0, .string ⟨#[]⟩, .int .i64 (S.seek n wh).1]) ?_ rfl ⟨rfl, Hs.out⟩
  simp [results, Try.results25, go_sem, g0, g1, g2]
end Go.Proofs.Ytgihclflndlomaa
