/- StreamNone. -/
import Derived.Test.YtgihclflndlomaaAe
namespace Go.Proofs.Ytgihclflndlomaa
open Go.RowKit

set_option maxRecDepth 100000 in
set_option maxHeartbeats 1000000 in
theorem do_nil_else (w : World) (k n wh : Int) (ab : Option Addr) (nb cb : Nat) (hk : k < 0 ∨ 8 < k) : Calls Try.prog 25 #[.pointer none, .agg #[.int .i64 k, .int .i64 n, .int .i64 wh, .slice ab nb cb]] w (NilPost w k) := by
  have hbe : Below w.heap.size w (doW w k n wh ab nb cb) := ((Below.refl _ w).alloc (Nat.le_refl _) _).alloc (by simp) _
  have e0 : (k == 0) = false := by simp; omega
  have e1 : (k == 1) = false := by simp; omega
  have e2 : (k == 2) = false := by simp; omega
  have e3 : (k == 3) = false := by simp; omega
  have e4 : (k == 4) = false := by simp; omega
  have e5 : (k == 5) = false := by simp; omega
  have e6 : (k == 6) = false := by simp; omega
  have e7 : (k == 7) = false := by simp; omega
  have e8 : (k == 8) = false := by simp; omega
  have Hk := Lib.hid hk
  clear hk
  go_enter Try.func25, Try.ntmps25
  go_wp2_with fail
  refine bodyPost_ret (v := .agg #[.int .i64 0, .string ⟨#[]⟩, .int .i64 0]) ?_ rfl ⟨0, _, 0, rfl, ?_, hbe⟩
  · simp [results, Try.results25, go_sem]
  · rcases Hk.out with h | h
    · exact .inl h
    · exact .inr (.inl h)

theorem do_nil (w : World) (k n wh : Int) (ab : Option Addr) (nb cb : Nat) : Calls Try.prog 25 #[.pointer none, .agg #[.int .i64 k, .int .i64 n, .int .i64 wh, .slice ab nb cb]] w (NilPost w k) := by
  by_cases hk : k < 0 ∨ 8 < k
  · exact do_nil_else w k n wh ab nb cb hk
  · have : k = 0 ∨ k = 1 ∨ k = 2 ∨ k = 3 ∨ k = 4 ∨ k = 5 ∨ k = 6 ∨ k = 7 ∨ k = 8 := by omega
    rcases this with rfl | rfl | rfl | rfl | rfl | rfl | rfl | rfl | rfl
    · exact do_nil_0 w n wh ab nb cb
    · exact do_nil_1 w n wh ab nb cb
    · exact do_nil_2 w n wh ab nb cb
    · exact do_nil_3 w n wh ab nb cb
    · exact do_nil_4 w n wh ab nb cb
    · exact do_nil_5 w n wh ab nb cb
    · exact do_nil_6 w n wh ab nb cb
    · exact do_nil_7 w n wh ab nb cb
    · exact do_nil_8 w n wh ab nb cb

set_option maxRecDepth 100000 in
set_option maxHeartbeats 4000000 in
theorem none_calls (w : World) (k n wh : Int) (ab : Option Addr) (nb cb : Nat) : Calls Try.prog 7 #[.agg #[.int .i64 k, .int .i64 n, .int .i64 wh, .slice ab nb cb]] w fun e w' => e = .returned (.bool true) ∧ Below w.heap.size w w' := by
  obtain ⟨W0, hW0⟩ : ∃ W0, w.alloc (.cells #[.int .i64 k, .int .i64 n, .int .i64 wh, .slice ab nb cb] 58) = W0 := ⟨_, rfl⟩
  have hb0 : Below w.heap.size w W0 := by rw [← hW0]; exact (Below.refl _ w).alloc (Nat.le_refl _) _
  have hl0 : w.heap.size < W0.heap.size := by rw [← hW0]; simp
  have c0 : W0.cell? ⟨w.heap.size, 0, none⟩ = some (.int .i64 k) := by rw [← hW0]; simp [go_sem]
  have c1 : W0.cell? ⟨w.heap.size, 1, none⟩ = some (.int .i64 n) := by rw [← hW0]; simp [go_sem]
  have c2 : W0.cell? ⟨w.heap.size, 2, none⟩ = some (.int .i64 wh) := by rw [← hW0]; simp [go_sem]
  have c3 : W0.cell? ⟨w.heap.size, 3, none⟩ = some (.slice ab nb cb) := by rw [← hW0]; simp [go_sem]
  have Hb0 := Lib.hid hb0
  go_enter Try.func7, Try.ntmps7
  go_wp2_with fail
  clear hW0
  refine (sane_calls W0).mono ?_
  rintro e W1 ⟨rfl, hb1⟩
  have d0 := (hb1.cell (p := ⟨w.heap.size, 0, none⟩) hl0).trans c0
  have d1 := (hb1.cell (p := ⟨w.heap.size, 1, none⟩) hl0).trans c1
  have d2 := (hb1.cell (p := ⟨w.heap.size, 2, none⟩) hl0).trans c2
  have d3 := (hb1.cell (p := ⟨w.heap.size, 3, none⟩) hl0).trans c3
  have hl1 : w.heap.size < W1.heap.size := Nat.lt_of_lt_of_le hl0 hb1.size
  have hbe1 : Below w.heap.size w W1 := Hb0.out.trans (hb1.mono hb0.size)
  clear c0 c1 c2 c3 hb1 hb0 hl0
  go_wp2_with fail
  refine (do_nil W1 k n wh ab nb cb).mono ?_
  rintro e W2 ⟨nn, s, x, rfl, hfine, hb2⟩
  have d0' := (hb2.cell (p := ⟨w.heap.size, 0, none⟩) hl1).trans d0
  have hl2 : w.heap.size < W2.heap.size := Nat.lt_of_lt_of_le hl1 hb2.size
  have hbe2 : Below w.heap.size w W2 := hbe1.trans (hb2.mono hbe1.size)
  clear d0 d1 d2 d3 hb2 hbe1 hl1
  go_wp2_with fail
  have hxc : (W2.alloc (.cells #[.int .i64 nn, .string s, .int .i64 x] 55)).cell? ⟨W2.heap.size, 2, none⟩ = some (.int .i64 x) := World.cell?_alloc_new _ _ _ _
  have hkc : (W2.alloc (.cells #[.int .i64 nn, .string s, .int .i64 x] 55)).cell? ⟨w.heap.size, 0, none⟩ = some (.int .i64 k) := (World.cell?_alloc_lt _ _ ⟨w.heap.size, 0, none⟩ hl2).trans d0'
  have hbe3 : Below w.heap.size w (W2.alloc (.cells #[.int .i64 nn, .string s, .int .i64 x] 55)) := hbe2.alloc hbe2.size _
  refine (device_nil _).mono ?_
  rintro e W3 ⟨rfl, hb3⟩
  have e0 := (hb3.cell (p := ⟨w.heap.size, 0, none⟩) (by simp; omega)).trans hkc
  have e2 := (hb3.cell (p := ⟨W2.heap.size, 2, none⟩) (by simp)).trans hxc
  have hl3 : W2.heap.size < W3.heap.size := by have := hb3.size; simp at this; omega
  have hbe4 := hbe3.trans (hb3.mono hbe3.size)
  clear hxc hkc hbe3 hb3 d0' hbe2
  obtain ⟨W4, hW4⟩ : ∃ W4, W3.alloc (.cells #[.slice none 0 0, .int .i64 0, .slice none 0 0] 25) = W4 := ⟨_, rfl⟩
  have k0 : W4.cell? ⟨w.heap.size, 0, none⟩ = some (.int .i64 k) := by rw [← hW4]; exact (World.cell?_alloc_lt _ _ ⟨w.heap.size, 0, none⟩ (by show w.heap.size < W3.heap.size; omega)).trans e0
  have k2 : W4.cell? ⟨W2.heap.size, 2, none⟩ = some (.int .i64 x) := by rw [← hW4]; exact (World.cell?_alloc_lt _ _ ⟨W2.heap.size, 2, none⟩ hl3).trans e2
  have g0 : W4.cell? ⟨W3.heap.size, 0, none⟩ = some (.slice none 0 0) := by rw [← hW4]; exact World.cell?_alloc_new _ _ _ _
  have g1 : W4.cell? ⟨W3.heap.size, 1, none⟩ = some (.int .i64 0) := by rw [← hW4]; exact World.cell?_alloc_new _ _ _ _
  have g2 : W4.cell? ⟨W3.heap.size, 2, none⟩ = some (.slice none 0 0) := by rw [← hW4]; exact World.cell?_alloc_new _ _ _ _
  have hbe5 : Below w.heap.size w W4 := by rw [← hW4]; exact hbe4.alloc hbe4.size _
  have Hbe := Lib.hid hbe5
  clear e0 e2 hbe4 hbe5
  have Hf := Lib.hid hfine
  clear hfine
  have HW4 := Lib.hid hW4
  clear hW4
  go_upto_region 5 with fail
  rw [HW4.out]
  clear HW4
  go_cut [7] from 14 to 31 (fun s wx => s = .bool true ∧ wx = W4)
  case first =>
    by_cases h1 : k < 0
    · have h1' : decide (k < 0) = true := decide_eq_true h1
      go_wp2_with fail
      go_meet
      exact ⟨rfl, rfl⟩
    · have h1' : decide (k < 0) = false := decide_eq_false h1
      by_cases h2 : 8 < k
      · have h2' : decide (8 < k) = true := decide_eq_true h2
        go_wp2_with fail
        go_meet
        exact ⟨rfl, rfl⟩
      · have h2' : decide (8 < k) = false := decide_eq_false h2
        by_cases h3 : k = 7
        · have h3' : (k == 7) = true := by simpa using h3
          have H3 := Lib.hid h3
          clear h3
          go_wp2_with fail
          go_meet
          exact ⟨rfl, rfl⟩
        · have h3' : (k == 7) = false := by simpa using h3
          have hx4 : x = 4 := by
            rcases Hf.out with h | h | h | h
            · exact absurd h h1
            · exact absurd h h2
            · exact absurd h h3
            · exact h
          subst hx4
          go_wp2_with fail
          go_meet
          exact ⟨rfl, rfl⟩
  case rest =>
    obtain ⟨rfl, rfl⟩ := hcut
    go_wp2_with fail
    refine (eof_nil _).mono ?_
    rintro e W5 ⟨rfl, rfl⟩
    go_wp2_with fail
    refine (failed_nil _).mono ?_
    rintro e W5 ⟨rfl, rfl⟩
    go_wp2_with fail
    go_ret
    exact ⟨rfl, Hbe.out⟩
end Go.Proofs.Ytgihclflndlomaa
