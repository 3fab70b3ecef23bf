/- do on an open stream: any call. -/
import Derived.Test.YtgihclflndlomaaAn
namespace Go.Proofs.Ytgihclflndlomaa
open Go.RowKit

theorem act_else (S : St) (k n wh : Int) (b : List UInt8) (hk : k < 0 ∨ 8 < k) : S.act ⟨k, n, wh, b⟩ = (⟨0, [], 0⟩, S) := by
  unfold St.act
  simp only
  rw [if_neg (by omega), if_neg (by omega), if_neg (by omega), if_neg (by omega), if_neg (by omega), if_neg (by omega), if_neg (by omega), if_neg (by omega), if_neg (by omega)]

set_option maxRecDepth 100000 in
set_option maxHeartbeats 1000000 in
theorem do_else {w : World} {own : Nat → Prop} {bs : Nat} {S : St} {m : Mem} (h : SAtM w own bs S m) (k n wh : Int) (ab : Option Addr) (nb cb : Nat) (b : List UInt8) (hk : k < 0 ∨ 8 < k) :
    Calls Try.prog 25 #[.pointer (some ⟨bs, 0, none⟩), .agg #[.int .i64 k, .int .i64 n, .int .i64 wh, .slice ab nb cb]] w (DoPost w own bs (S.act ⟨k, n, wh, b⟩)) := by
  rw [act_else S k n wh b hk]
  have hd : SAtM (doW w k n wh ab nb cb) own bs S m := (h.alloc _).alloc _
  have hf : Fr w (doW w k n wh ab nb cb) own own := ((Fr.refl w own).alloc _).alloc _
  have Hd := Lib.hid (show SAt' w (doW w k n wh ab nb cb) own bs S from ⟨own, m, hd, hf⟩)
  have e0 : (k == 0) = false := by simp; omega
  have e1 : (k == 1) = false := by simp; omega
  have e2 : (k == 2) = false := by simp; omega
  have e3 : (k == 3) = false := by simp; omega
  have e4 : (k == 4) = false := by simp; omega
  have e5 : (k == 5) = false := by simp; omega
  have e6 : (k == 6) = false := by simp; omega
  have e7 : (k == 7) = false := by simp; omega
  have e8 : (k == 8) = false := by simp; omega
  clear h hd hf hk
  go_enter Try.func25, Try.ntmps25
  go_wp2_with fail
  refine bodyPost_ret (v := .agg #[.int .i64 0, .string ⟨#[]⟩, .int .i64 0]) ?_ rfl ⟨rfl, Hd.out⟩
  simp [results, Try.results25, go_sem]

theorem do_calls {w : World} {own : Nat → Prop} {bs : Nat} {S : St} {m : Mem} (h : SAtM w own bs S m) (hok : S.Ok) (k n wh : Int) (any : Nat → Prop) (hany : ∀ k, any k → ¬ own k) (ab : Option Addr) (nb cb : Nat) (b : List UInt8) (hb : Rd w any byteV (.slice ab nb cb) b) :
    Calls Try.prog 25 #[.pointer (some ⟨bs, 0, none⟩), .agg #[.int .i64 k, .int .i64 n, .int .i64 wh, .slice ab nb cb]] w (DoPost w own bs (S.act ⟨k, n, wh, b⟩)) := by
  by_cases hk : k < 0 ∨ 8 < k
  · exact do_else h k n wh ab nb cb b hk
  · have : k = 0 ∨ k = 1 ∨ k = 2 ∨ k = 3 ∨ k = 4 ∨ k = 5 ∨ k = 6 ∨ k = 7 ∨ k = 8 := by omega
    rcases this with rfl | rfl | rfl | rfl | rfl | rfl | rfl | rfl | rfl
    · exact do_0 h hok n wh ab nb cb b
    · exact do_1 h hok n wh ab nb cb b
    · exact do_2 h hok n wh ab nb cb b
    · exact do_3 h hok n wh any hany ab nb cb b hb
    · exact do_4 h hok n wh ab nb cb b
    · exact do_5 h hok n wh ab nb cb b
    · exact do_6 h hok n wh ab nb cb b
    · exact do_7 h n wh ab nb cb b
    · exact do_8 h hok n wh ab nb cb b
end Go.Proofs.Ytgihclflndlomaa
