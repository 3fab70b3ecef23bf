/- do on an open stream: Write. -/
import Derived.Test.YtgihclflndlomaaAm
namespace Go.Proofs.Ytgihclflndlomaa
open Go.RowKit

set_option maxRecDepth 100000 in
set_option maxHeartbeats 1000000 in
theorem do_3 {w : World} {own : Nat → Prop} {bs : Nat} {S : St} {m : Mem} (h : SAtM w own bs S m) (hok : S.Ok) (n wh : Int) (any : Nat → Prop) (hany : ∀ k, any k → ¬ own k) (ab : Option Addr) (nb cb : Nat) (b : List UInt8) (hb : Rd w any byteV (.slice ab nb cb) b) :
    Calls Try.prog 25 #[.pointer (some ⟨bs, 0, none⟩), .agg #[.int .i64 3, .int .i64 n, .int .i64 wh, .slice ab nb cb]] w (DoPost w own bs (S.act ⟨3, n, wh, b⟩)) := by
  have hlt := h.lt
  have hd : SAtM (doW w 3 n wh ab nb cb) own bs S m := (h.alloc _).alloc _
  have hbe : Below w.heap.size w (doW w 3 n wh ab nb cb) := ((Below.refl _ w).alloc (Nat.le_refl _) _).alloc (by simp) _
  have hbd : Rd (doW w 3 n wh ab nb cb) any byteV (.slice ab nb cb) b := hb.keep (fun k _ hk => hbe.block k hk) (fun _ h _ => h)
  have Hc := Lib.hid (write_calls ⟨m, hd⟩ hok any hany ab nb cb b hbd)
  clear h hok hd hb hbd hbe
  go_enter Try.func25, Try.ntmps25
  go_wp2_with fail
  refine Hc.out.mono ?_
  rintro e w1 ⟨rfl, hs⟩
  obtain ⟨k0, k1, k2, j0, j1, j2⟩ := do_cells hs hlt
  obtain ⟨g0, g1, g2⟩ := got_cells (v0 := .int .i64 (S.write b).1) (v1 := .string ⟨#[]⟩) (v2 := .int .i64 (S.write b).2.1) k0 k1 k2
  have Hs := Lib.hid (do_shut hs hlt (.int .i64 (S.write b).1) (.string ⟨#[]⟩) (.int .i64 (S.write b).2.1))
  clear hs hlt
  go_wp2_with fail
  refine bodyPost_ret (v := .agg #[.int .i64 (S.write b).1, .string ⟨#[]⟩, .int .i64 (S.write b).2.1]) ?_ rfl ⟨rfl, Hs.out⟩
  simp [results, Try.results25, go_sem, g0, g1, g2]
end Go.Proofs.Ytgihclflndlomaa
