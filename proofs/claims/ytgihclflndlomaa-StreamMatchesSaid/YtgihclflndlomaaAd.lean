/- A nil stream: every call. -/
import Derived.Test.YtgihclflndlomaaAc
namespace Go.Proofs.Ytgihclflndlomaa
open Go.RowKit

theorem caught_below (w : World) (x : Int) : Below w.heap.size w (caughtW (errW w) w.heap.size x) :=
  (((Below.refl _ w).alloc (Nat.le_refl _) _).alloc (by simp) _).setCell (Nat.le_refl _) _

theorem errW_cells (w : World) : w.heap.size < (errW w).heap.size ∧ (errW w).cell? ⟨w.heap.size, 0, none⟩ = some (.int .i64 0) ∧ (errW w).frozen? ⟨w.heap.size, 0, none⟩ = false :=
  ⟨by simp [errW], by simp [errW, go_sem], by simp [errW, go_sem]⟩

theorem flush_nil (w : World) : Calls Try.prog 17 #[.pointer none] w fun e w' => e = .returned (.int .i64 4) ∧ Below w.heap.size w w' := by
  obtain ⟨hb, hce, hz⟩ := errW_cells w
  have hcc := caughtW_cell (x := 4) hce
  go_enter_defers Try.func17, Try.ntmps17
  go_wp2_with (go_at_call 34; refine (use_nil _).mono ?_; rintro r w' ⟨rfl, rfl⟩)
  refine door_err (y := 0) (v := .int .i64 4) hb hce hz ?_ ⟨rfl, caught_below w 4⟩
  simp [results, Try.results17, go_sem, hcc]
theorem getc_nil (w : World) : Calls Try.prog 45 #[.pointer none] w fun e w' => e = .returned (.tuple #[.int .u8 0, .int .i64 4]) ∧ Below w.heap.size w w' := by
  obtain ⟨hb, hce, hz⟩ := errW_cells w
  have hcc := caughtW_cell (x := 4) hce
  go_enter_defers Try.func45, Try.ntmps45
  go_wp2_with (go_at_call 34; refine (use_nil _).mono ?_; rintro r w' ⟨rfl, rfl⟩)
  refine door_err (y := 0) (v := .tuple #[.int .u8 0, .int .i64 4]) hb hce hz ?_ ⟨rfl, caught_below w 4⟩
  simp [results, Try.results45, go_sem, hcc]
theorem ungetc_nil (w : World) (c : Value) : Calls Try.prog 13 #[.pointer none, c] w fun e w' => e = .returned (.int .i64 4) ∧ Below w.heap.size w w' := by
  obtain ⟨hb, hce, hz⟩ := errW_cells w
  have hcc := caughtW_cell (x := 4) hce
  go_enter_defers Try.func13, Try.ntmps13
  go_wp2_with (go_at_call 34; refine (use_nil _).mono ?_; rintro r w' ⟨rfl, rfl⟩)
  refine door_err (y := 0) (v := .int .i64 4) hb hce hz ?_ ⟨rfl, caught_below w 4⟩
  simp [results, Try.results13, go_sem, hcc]
theorem write_nil (w : World) (c : Value) : Calls Try.prog 16 #[.pointer none, c] w fun e w' => e = .returned (.tuple #[.int .i64 0, .int .i64 4]) ∧ Below w.heap.size w w' := by
  obtain ⟨hb, hce, hz⟩ := errW_cells w
  have hcc := caughtW_cell (x := 4) hce
  go_enter_defers Try.func16, Try.ntmps16
  go_wp2_with (go_at_call 34; refine (use_nil _).mono ?_; rintro r w' ⟨rfl, rfl⟩)
  refine door_err (y := 0) (v := .tuple #[.int .i64 0, .int .i64 4]) hb hce hz ?_ ⟨rfl, caught_below w 4⟩
  simp [results, Try.results16, go_sem, hcc]
theorem seek_nil (w : World) (a b : Value) : Calls Try.prog 22 #[.pointer none, a, b] w fun e w' => e = .returned (.int .i64 4) ∧ Below w.heap.size w w' := by
  obtain ⟨hb, hce, hz⟩ := errW_cells w
  have hcc := caughtW_cell (x := 4) hce
  go_enter_defers Try.func22, Try.ntmps22
  go_wp2_with (go_at_call 34; refine (use_nil _).mono ?_; rintro r w' ⟨rfl, rfl⟩)
  refine door_err (y := 0) (v := .int .i64 4) hb hce hz ?_ ⟨rfl, caught_below w 4⟩
  simp [results, Try.results22, go_sem, hcc]
theorem tell_nil (w : World) : Calls Try.prog 18 #[.pointer none] w fun e w' => e = .returned (.tuple #[.int .i64 0, .int .i64 4]) ∧ Below w.heap.size w w' := by
  obtain ⟨hb, hce, hz⟩ := errW_cells w
  have hcc := caughtW_cell (x := 4) hce
  go_enter_defers Try.func18, Try.ntmps18
  go_wp2_with (go_at_call 34; refine (use_nil _).mono ?_; rintro r w' ⟨rfl, rfl⟩)
  refine door_err (y := 0) (v := .tuple #[.int .i64 0, .int .i64 4]) hb hce hz ?_ ⟨rfl, caught_below w 4⟩
  simp [results, Try.results18, go_sem, hcc]
theorem close_nil (w : World) : Calls Try.prog 47 #[.pointer none] w fun e w' => e = .returned (.int .i64 4) ∧ Below w.heap.size w w' := by
  obtain ⟨hb, hce, hz⟩ := errW_cells (w.alloc (.cells #[.pointer none] 27))
  have hcc := caughtW_cell (x := 4) hce
  rw [World.size_alloc] at hb hce hz hcc
  have hbe : Below w.heap.size w (caughtW (errW (w.alloc (.cells #[.pointer none] 27))) (w.heap.size + 1) 4) := ((((Below.refl _ w).alloc (Nat.le_refl _) _).alloc (by simp) _).alloc (by simp; omega) _).setCell (by show w.heap.size ≤ w.heap.size + 1; omega) _
  go_enter_defers Try.func47, Try.ntmps47
  go_wp2_with (go_at_call 34; refine (use_nil _).mono ?_; rintro r w' ⟨rfl, rfl⟩)
  refine door_err (y := 0) (v := .int .i64 4) hb hce hz ?_ ⟨rfl, hbe⟩
  simp [results, Try.results47, go_sem, hcc]
theorem read_nil (w : World) (n : Int) : Calls Try.prog 12 #[.pointer none, .int .i64 n] w fun e w' => e = .returned (.tuple #[.slice none 0 0, .int .i64 4]) ∧ Below w.heap.size w w' := by
  obtain ⟨hb, hce, hz, hco⟩ := rdW_cells w
  have hcc := caughtW_cell (x := 4) hce
  have hcc0 : (caughtW (rdW w) (w.heap.size + 1) 4).cell? ⟨w.heap.size, 0, none⟩ = some (.slice none 0 0) := (cell_set_block _ (by omega)).trans ((World.cell?_alloc_lt _ _ ⟨w.heap.size, 0, none⟩ (by simp [rdW]; omega)).trans hco)
  have hbe : Below w.heap.size w (caughtW (rdW w) (w.heap.size + 1) 4) := ((((Below.refl _ w).alloc (Nat.le_refl _) _).alloc (by simp) _).alloc (by simp; omega) _).setCell (by show w.heap.size ≤ w.heap.size + 1; omega) _
  go_enter_defers Try.func12, Try.ntmps12
  go_wp2_with (go_at_call 34; refine (use_nil _).mono ?_; rintro r w' ⟨rfl, rfl⟩)
  refine door_err (y := 0) (v := .tuple #[.slice none 0 0, .int .i64 4]) hb hce hz ?_ ⟨rfl, hbe⟩
  simp [results, Try.results12, go_sem, hcc, hcc0]
end Go.Proofs.Ytgihclflndlomaa
