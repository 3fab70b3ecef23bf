/- Read, all its ways. -/
import Derived.Test.YtgihclflndlomaaY
namespace Go.Proofs.Ytgihclflndlomaa
open Go.RowKit

/-- The world with Read's two result cells. -/
abbrev rdW (w : World) : World := (w.alloc (.cells #[.slice none 0 0] 22)).alloc (.cells #[.int .i64 0] 28)

/-- Read ends by an error ahead of its loop. -/
theorem read_err {w : World} {own : Nat → Prop} {bs : Nat} {S : St} {m : Mem} (h : SAtM w own bs S m) (x : Int) :
    ReadPost w own bs ([], x, S) (.returned (.tuple #[.slice none 0 0, .int .i64 x])) (caughtW (rdW w) (w.heap.size + 1) x) :=
  ⟨none, 0, 0, own, m, rfl, ((((h.alloc _).alloc _).alloc _).other _ _ (fun e => by have := h.lt _ e; simp at this; omega)),
    ((((Fr.refl w own).alloc _).alloc _).alloc _).setCell _ _ (.inr (by show w.heap.size ≤ w.heap.size + 1; omega)), .inl ⟨rfl, none, rfl⟩⟩

theorem rdW_cells (w : World) : w.heap.size + 1 < (rdW w).heap.size ∧ (rdW w).cell? ⟨w.heap.size + 1, 0, none⟩ = some (.int .i64 0) ∧ (rdW w).frozen? ⟨w.heap.size + 1, 0, none⟩ = false ∧
    (rdW w).cell? ⟨w.heap.size, 0, none⟩ = some (.slice none 0 0) := by
  refine ⟨by simp [rdW], by simp [rdW, go_sem], by simp [rdW, go_sem], by simp [rdW, go_sem]⟩


theorem read_closed {w : World} {own : Nat → Prop} {bs : Nat} {S : St} {m : Mem} (h : SAtM w own bs S m) (ho : S.opened = false) (n : Int) :
    Calls Try.prog 12 #[.pointer (some ⟨bs, 0, none⟩), .int .i64 n] w (ReadPost w own bs ([], 4, S)) := by
  have c8 : (rdW w).cell? ⟨bs, 8, none⟩ = some (.bool false) := by rw [((h.alloc _).alloc _).c]; simp [Mem.stream, ho]
  obtain ⟨hb, hce, hz, hco⟩ := rdW_cells w
  have hfin := Lib.hid (read_err h 4)
  have hcc := caughtW_cell (x := 4) hce
  have hcc0 : (caughtW (rdW w) (w.heap.size + 1) 4).cell? ⟨w.heap.size, 0, none⟩ = some (.slice none 0 0) := (cell_set_block _ (by omega)).trans ((World.cell?_alloc_lt _ _ ⟨w.heap.size, 0, none⟩ (by simp [rdW]; omega)).trans hco)
  clear ho
  go_enter_defers Try.func12, Try.ntmps12
  go_wp2_with (go_at_call 34; refine (use_closed _ _ c8).mono ?_; rintro r w' ⟨rfl, rfl⟩)
  refine door_err (y := 0) (v := .tuple #[.slice none 0 0, .int .i64 4]) hb hce hz ?_ hfin.out
  simp [results, Try.results12, go_sem, hcc, hcc0]

theorem read_bad {w : World} {own : Nat → Prop} {bs : Nat} {S : St} {m : Mem} (h : SAtM w own bs S m) (ho : S.opened = true) (n : Int) (hn : n < 0 ∨ 1048576 < n) :
    Calls Try.prog 12 #[.pointer (some ⟨bs, 0, none⟩), .int .i64 n] w (ReadPost w own bs ([], 1, S)) := by
  have c8 : (rdW w).cell? ⟨bs, 8, none⟩ = some (.bool true) := by rw [((h.alloc _).alloc _).c]; simp [Mem.stream, ho]
  obtain ⟨hb, hce, hz, hco⟩ := rdW_cells w
  have hfin := Lib.hid (read_err h 1)
  have hcc := caughtW_cell (x := 1) hce
  have hcc0 : (caughtW (rdW w) (w.heap.size + 1) 1).cell? ⟨w.heap.size, 0, none⟩ = some (.slice none 0 0) := (cell_set_block _ (by omega)).trans ((World.cell?_alloc_lt _ _ ⟨w.heap.size, 0, none⟩ (by simp [rdW]; omega)).trans hco)
  clear ho
  by_cases h0 : 0 ≤ n
  · have h1 : decide (n ≤ 1048576) = false := decide_eq_false (by omega)
    have h2 : decide (0 ≤ n) = true := decide_eq_true h0
    clear hn
    go_enter_defers Try.func12, Try.ntmps12
    go_wp2_with (first | (go_at_call 34; refine (use_open _ _ c8).mono ?_; rintro r w' ⟨rfl, rfl⟩) | (go_at_call 35; refine (want_bad _ 1 _ (by first | rfl | (simp; omega)) rfl).mono ?_; rintro r w' ⟨rfl, rfl⟩))
    refine door_err (y := 0) (v := .tuple #[.slice none 0 0, .int .i64 1]) hb hce hz ?_ hfin.out
    simp [results, Try.results12, go_sem, hcc, hcc0]
  · have h2 : decide (0 ≤ n) = false := decide_eq_false h0
    clear hn
    go_enter_defers Try.func12, Try.ntmps12
    go_wp2_with (first | (go_at_call 34; refine (use_open _ _ c8).mono ?_; rintro r w' ⟨rfl, rfl⟩) | (go_at_call 35; refine (want_bad _ 1 _ (by first | rfl | (simp; omega)) rfl).mono ?_; rintro r w' ⟨rfl, rfl⟩))
    refine door_err (y := 0) (v := .tuple #[.slice none 0 0, .int .i64 1]) hb hce hz ?_ hfin.out
    simp [results, Try.results12, go_sem, hcc, hcc0]

set_option maxHeartbeats 1000000 in
theorem read_unrd {w : World} {own : Nat → Prop} {bs : Nat} {S : St} {m : Mem} (h : SAtM w own bs S m) (ho : S.opened = true) (hr : S.rd = false) (n : Int) (h0 : 0 ≤ n) (h1 : n ≤ 1048576) :
    Calls Try.prog 12 #[.pointer (some ⟨bs, 0, none⟩), .int .i64 n] w (ReadPost w own bs ([], 4, S)) := by
  have c8 : (rdW w).cell? ⟨bs, 8, none⟩ = some (.bool true) := by rw [((h.alloc _).alloc _).c]; simp [Mem.stream, ho]
  have c3 : (rdW w).cell? ⟨bs, 3, none⟩ = some (.bool false) := by rw [((h.alloc _).alloc _).c]; simp [Mem.stream, hr]
  obtain ⟨hb, hce, hz, hco⟩ := rdW_cells w
  have hfin := Lib.hid (read_err h 4)
  have hcc := caughtW_cell (x := 4) hce
  have hcc0 : (caughtW (rdW w) (w.heap.size + 1) 4).cell? ⟨w.heap.size, 0, none⟩ = some (.slice none 0 0) := (cell_set_block _ (by omega)).trans ((World.cell?_alloc_lt _ _ ⟨w.heap.size, 0, none⟩ (by simp [rdW]; omega)).trans hco)
  have h0' : decide (0 ≤ n) = true := decide_eq_true h0
  have h1' : decide (n ≤ 1048576) = true := decide_eq_true h1
  clear ho hr
  go_enter_defers Try.func12, Try.ntmps12
  go_wp2_with (go_at_call 34; refine (use_open _ _ c8).mono ?_; rintro r w' ⟨rfl, rfl⟩)
  refine (want_ok _ 1 _ (by first | rfl | (simp; omega))).mono ?_
  rintro r w' ⟨rfl, rfl⟩
  go_wp2_with fail
  refine (want_bad _ 4 _ rfl rfl).mono ?_
  rintro r w' ⟨rfl, rfl⟩
  go_wp2_with fail
  refine door_err (y := 0) (v := .tuple #[.slice none 0 0, .int .i64 4]) hb hce hz ?_ hfin.out
  simp [results, Try.results12, go_sem, hcc, hcc0]

/-- Read computes what the plain model says. -/
theorem read_calls {w : World} {own : Nat → Prop} {bs : Nat} {S : St} (h : SAt w own bs S) (hok : S.Ok) (n : Int) :
    Calls Try.prog 12 #[.pointer (some ⟨bs, 0, none⟩), .int .i64 n] w (ReadPost w own bs (S.read n)) := by
  obtain ⟨m, h⟩ := h
  unfold St.read
  by_cases ho : S.opened = false
  · rw [if_pos ho]; exact read_closed h ho n
  · have ho' : S.opened = true := by simpa using ho
    rw [if_neg ho]
    by_cases hn : n < 0 ∨ 1048576 < n
    · rw [if_pos hn]; exact read_bad h ho' n hn
    · rw [if_neg hn]
      by_cases hr : S.rd = false
      · rw [if_pos hr]; exact read_unrd h ho' hr n (by omega) (by omega)
      · have hr' : S.rd = true := by simpa using hr
        rw [if_neg hr]
        have := read_go h ho' hr' hok n.toNat (by omega)
        rwa [show ((n.toNat : Nat) : Int) = n by omega] at this
end Go.Proofs.Ytgihclflndlomaa
