/- The small helpers of package stream (must, want, use, tell) never change memory and panic just when they should. -/
import Derived.Test.YtgihclflndlomaaRows
import Derived.WalkKit
import Derived.WalkSpells
import Derived.WalkLawsBesides
import Derived.Deep.QuietTactic
import Derived.BigQuiet
namespace Go.Proofs.Ytgihclflndlomaa
open Go.RowKit

/-- The panic of package stream with an error. -/
def pe (e : Int) : List PanicEntry := [{ v := .iface 96 (.agg #[.int .i64 e]), recovered := false }]

theorem must_ok (e : Int) (w : World) (he : e = 0) : Calls Try.prog 42 #[.int .i64 e] w fun e w' => e = .returned (.tuple #[]) ∧ w = w' := by
  subst he
  go_enter Try.func42, Try.ntmps42
  go_wp2
  go_end0
  exact ⟨rfl, rfl⟩

theorem must_bad (e : Int) (w : World) (he : (e != 0) = true) : Calls Try.prog 42 #[.int .i64 e] w fun r w' => r = .panicked (pe e) ∧ w = w' := by
  go_enter Try.func42, Try.ntmps42
  go_wp2
  exact ⟨rfl, rfl, rfl⟩

theorem want_ok (b : Bool) (e : Int) (w : World) (hb : b = true) : Calls Try.prog 35 #[.bool b, .int .i64 e] w fun r w' => r = .returned (.tuple #[]) ∧ w = w' := by
  subst hb
  go_enter Try.func35, Try.ntmps35
  go_wp2
  go_end0
  exact ⟨rfl, rfl⟩

theorem want_bad (b : Bool) (e : Int) (w : World) (hb : b = false) (he : (e != 0) = true) : Calls Try.prog 35 #[.bool b, .int .i64 e] w fun r w' => r = .panicked (pe e) ∧ w = w' := by
  subst hb
  go_enter Try.func35, Try.ntmps35
  go_wp2_with (go_at_call 42; refine (must_bad e _ he).mono ?_; rintro r w' ⟨rfl, rfl⟩)
  exact ⟨rfl, rfl, rfl⟩

theorem use_nil (w : World) : Calls Try.prog 34 #[.pointer none] w fun r w' => r = .panicked (pe 4) ∧ w = w' := by
  go_enter Try.func34, Try.ntmps34
  go_wp2_with (go_at_call 35; refine (want_bad _ 4 _ rfl rfl).mono ?_; rintro r w' ⟨rfl, rfl⟩)
  exact ⟨rfl, rfl, rfl⟩

theorem use_open (b : Nat) (w : World) (hc : w.cell? ⟨b, 8, none⟩ = some (.bool true)) : Calls Try.prog 34 #[.pointer (some ⟨b, 0, none⟩)] w fun r w' => r = .returned (.tuple #[]) ∧ w = w' := by
  go_enter Try.func34, Try.ntmps34
  go_wp2_with (go_at_call 35; refine (want_ok _ 4 _ rfl).mono ?_; rintro r w' ⟨rfl, rfl⟩)
  go_end0
  exact ⟨rfl, rfl⟩

theorem use_closed (b : Nat) (w : World) (hc : w.cell? ⟨b, 8, none⟩ = some (.bool false)) : Calls Try.prog 34 #[.pointer (some ⟨b, 0, none⟩)] w fun r w' => r = .panicked (pe 4) ∧ w = w' := by
  go_enter Try.func34, Try.ntmps34
  go_wp2_with (go_at_call 35; refine (want_bad _ 4 _ rfl rfl).mono ?_; rintro r w' ⟨rfl, rfl⟩)
  exact ⟨rfl, rfl, rfl⟩

section
variable (b : Nat) (pos : Int) (la lb lw : Nat) (aa ab aw : Option Addr) (ca cb cw : Nat) (w : World)
    (c9 : w.cell? ⟨b, 9, none⟩ = some (.int .i64 pos)) (c10 : w.cell? ⟨b, 10, none⟩ = some (.slice aa la ca)) (c11 : w.cell? ⟨b, 11, none⟩ = some (.slice ab lb cb)) (c12 : w.cell? ⟨b, 12, none⟩ = some (.slice aw lw cw))
    (h0 : 0 ≤ pos) (h1 : pos ≤ 2000000) (ha : la ≤ 2000000) (hb : lb ≤ 2000000) (hw : lw ≤ 2000000)
include c9 c10 c11 c12 h0 h1 ha hb hw
theorem tell_ok (ht : 0 ≤ pos + (lw : Int) - (la : Int) - (lb : Int)) :
    Calls Try.prog 41 #[.pointer (some ⟨b, 0, none⟩)] w fun e w' => e = .returned (.int .i64 (pos + lw - la - lb)) ∧ ∃ n, w' = w.drewN n := by
  go_enter Try.func41, Try.ntmps41
  go_wp2
  go_quiet (fail)
  go_wp2_with (go_at_call 35; refine (want_ok _ 4 _ (by simp; omega)).mono ?_; rintro r w' ⟨rfl, rfl⟩)
  go_ret
  exact ⟨rfl, _, rfl⟩
theorem tell_bad (ht : pos + (lw : Int) - (la : Int) - (lb : Int) < 0) :
    Calls Try.prog 41 #[.pointer (some ⟨b, 0, none⟩)] w fun e w' => e = .panicked (pe 4) ∧ ∃ n, w' = w.drewN n := by
  go_enter Try.func41, Try.ntmps41
  go_wp2
  go_quiet (fail)
  go_wp2_with (go_at_call 35; refine (want_bad _ 4 _ (by simp; omega) rfl).mono ?_; rintro r w' ⟨rfl, rfl⟩)
  exact ⟨rfl, rfl, _, rfl⟩
end
end Go.Proofs.Ytgihclflndlomaa
