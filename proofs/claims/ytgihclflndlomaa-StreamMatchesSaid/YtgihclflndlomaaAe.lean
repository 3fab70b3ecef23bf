/- do on a nil stream. -/
import Derived.Test.YtgihclflndlomaaAd
namespace Go.Proofs.Ytgihclflndlomaa
open Go.RowKit

/-- What do gives on a nil stream. -/
def NilPost (w : World) (k : Int) (e : Ending) (w' : World) : Prop :=
  ∃ nn s x, e = .returned (.agg #[.int .i64 nn, .string s, .int .i64 x]) ∧ (k < 0 ∨ 8 < k ∨ k = 7 ∨ x = 4) ∧ Below w.heap.size w w'

/-- The world in which do makes its call. -/
abbrev doW (w : World) (k n wh : Int) (ab : Option Addr) (nb cb : Nat) : World :=
  (w.alloc (.cells #[.int .i64 k, .int .i64 n, .int .i64 wh, .slice ab nb cb] 58)).alloc (.cells #[.int .i64 0, .string ByteArray.empty, .int .i64 0] 55)

theorem got_cells {w1 : World} {b : Nat} {o0 o1 o2 v0 v1 v2 : Value} (z0 : w1.cell? ⟨b, 0, none⟩ = some o0) (z1 : w1.cell? ⟨b, 1, none⟩ = some o1) (z2 : w1.cell? ⟨b, 2, none⟩ = some o2) :
    (((w1.setCell ⟨b, 0, none⟩ v0).setCell ⟨b, 1, none⟩ v1).setCell ⟨b, 2, none⟩ v2).cell? ⟨b, 0, none⟩ = some v0 ∧ (((w1.setCell ⟨b, 0, none⟩ v0).setCell ⟨b, 1, none⟩ v1).setCell ⟨b, 2, none⟩ v2).cell? ⟨b, 1, none⟩ = some v1 ∧
    (((w1.setCell ⟨b, 0, none⟩ v0).setCell ⟨b, 1, none⟩ v1).setCell ⟨b, 2, none⟩ v2).cell? ⟨b, 2, none⟩ = some v2 :=
  ⟨(cell_set_off _ (by decide)).trans ((cell_set_off _ (by decide)).trans (World.cell?_setCell_same _ _ _ z0)),
   (cell_set_off _ (by decide)).trans (World.cell?_setCell_same _ _ _ ((cell_set_off _ (by decide)).trans z1)),
   World.cell?_setCell_same _ _ _ ((cell_set_off _ (by decide)).trans ((cell_set_off _ (by decide)).trans z2))⟩

set_option maxRecDepth 100000 in
set_option maxHeartbeats 1000000 in
theorem do_nil_0 (w : World) (n wh : Int) (ab : Option Addr) (nb cb : Nat) : Calls Try.prog 25 #[.pointer none, .agg #[.int .i64 0, .int .i64 n, .int .i64 wh, .slice ab nb cb]] w (NilPost w 0) := by
  have hb0 : Below w.heap.size w (doW w 0 n wh ab nb cb) := ((Below.refl _ w).alloc (Nat.le_refl _) _).alloc (by simp) _
  have hsz : w.heap.size + 1 < (doW w 0 n wh ab nb cb).heap.size := by simp [doW]
  have z0 : (doW w 0 n wh ab nb cb).cell? ⟨w.heap.size + 1, 0, none⟩ = some (.int .i64 0) := by simp [doW, go_sem]
  have z1 : (doW w 0 n wh ab nb cb).cell? ⟨w.heap.size + 1, 1, none⟩ = some (.string ByteArray.empty) := by simp [doW, go_sem]
  have z2 : (doW w 0 n wh ab nb cb).cell? ⟨w.heap.size + 1, 2, none⟩ = some (.int .i64 0) := by simp [doW, go_sem]
  have y0 : (doW w 0 n wh ab nb cb).frozen? ⟨w.heap.size + 1, 0, none⟩ = false := by simp [doW, go_sem]
  have y1 : (doW w 0 n wh ab nb cb).frozen? ⟨w.heap.size + 1, 1, none⟩ = false := by simp [doW, go_sem]
  have y2 : (doW w 0 n wh ab nb cb).frozen? ⟨w.heap.size + 1, 2, none⟩ = false := by simp [doW, go_sem]
  go_enter Try.func25, Try.ntmps25
  go_wp2_with fail
  refine (getc_nil _).mono ?_
  rintro e w1 ⟨rfl, hb⟩
  have hbe : Below w.heap.size w w1 := hb0.trans (Below.mono hb (by simp <;> omega))
  have k0 := (hb.cell (p := ⟨w.heap.size + 1, 0, none⟩) hsz).trans z0
  have k1 := (hb.cell (p := ⟨w.heap.size + 1, 1, none⟩) hsz).trans z1
  have k2 := (hb.cell (p := ⟨w.heap.size + 1, 2, none⟩) hsz).trans z2
  have j0 := (hb.frozen (p := ⟨w.heap.size + 1, 0, none⟩) hsz).trans y0
  have j1 := (hb.frozen (p := ⟨w.heap.size + 1, 1, none⟩) hsz).trans y1
  have j2 := (hb.frozen (p := ⟨w.heap.size + 1, 2, none⟩) hsz).trans y2
  have kc : (convert 22 9 (.slice none 0 0)).run Try.prog w1 = .ok (.string ⟨#[]⟩) w1 := conv_str (Rd.nil w1 (fun _ => True) byteV)
  clear hb z0 z1 z2 y0 y1 y2
  go_wp2_with fail
  obtain ⟨g0, g1, g2⟩ := got_cells (v0 := .int .i64 0) (v1 := .string ⟨#[]⟩) (v2 := .int .i64 4) k0 k1 k2
  refine bodyPost_ret (v := .agg #[.int .i64 0, .string ⟨#[]⟩, .int .i64 4]) ?_ rfl ⟨0, _, 4, rfl, by simp, ((hbe.setCell (by show w.heap.size ≤ w.heap.size + 1; omega) _).setCell (by show w.heap.size ≤ w.heap.size + 1; omega) _).setCell (by show w.heap.size ≤ w.heap.size + 1; omega) _⟩
  simp [results, Try.results25, go_sem, g0, g1, g2]

set_option maxRecDepth 100000 in
set_option maxHeartbeats 1000000 in
theorem do_nil_1 (w : World) (n wh : Int) (ab : Option Addr) (nb cb : Nat) : Calls Try.prog 25 #[.pointer none, .agg #[.int .i64 1, .int .i64 n, .int .i64 wh, .slice ab nb cb]] w (NilPost w 1) := by
  have hb0 : Below w.heap.size w (doW w 1 n wh ab nb cb) := ((Below.refl _ w).alloc (Nat.le_refl _) _).alloc (by simp) _
  have hsz : w.heap.size + 1 < (doW w 1 n wh ab nb cb).heap.size := by simp [doW]
  have z0 : (doW w 1 n wh ab nb cb).cell? ⟨w.heap.size + 1, 0, none⟩ = some (.int .i64 0) := by simp [doW, go_sem]
  have z1 : (doW w 1 n wh ab nb cb).cell? ⟨w.heap.size + 1, 1, none⟩ = some (.string ByteArray.empty) := by simp [doW, go_sem]
  have z2 : (doW w 1 n wh ab nb cb).cell? ⟨w.heap.size + 1, 2, none⟩ = some (.int .i64 0) := by simp [doW, go_sem]
  have y0 : (doW w 1 n wh ab nb cb).frozen? ⟨w.heap.size + 1, 0, none⟩ = false := by simp [doW, go_sem]
  have y1 : (doW w 1 n wh ab nb cb).frozen? ⟨w.heap.size + 1, 1, none⟩ = false := by simp [doW, go_sem]
  have y2 : (doW w 1 n wh ab nb cb).frozen? ⟨w.heap.size + 1, 2, none⟩ = false := by simp [doW, go_sem]
  go_enter Try.func25, Try.ntmps25
  go_wp2_with fail
  refine (ungetc_nil _ _).mono ?_
  rintro e w1 ⟨rfl, hb⟩
  have hbe : Below w.heap.size w w1 := hb0.trans (Below.mono hb (by simp <;> omega))
  have k0 := (hb.cell (p := ⟨w.heap.size + 1, 0, none⟩) hsz).trans z0
  have k1 := (hb.cell (p := ⟨w.heap.size + 1, 1, none⟩) hsz).trans z1
  have k2 := (hb.cell (p := ⟨w.heap.size + 1, 2, none⟩) hsz).trans z2
  have j0 := (hb.frozen (p := ⟨w.heap.size + 1, 0, none⟩) hsz).trans y0
  have j1 := (hb.frozen (p := ⟨w.heap.size + 1, 1, none⟩) hsz).trans y1
  have j2 := (hb.frozen (p := ⟨w.heap.size + 1, 2, none⟩) hsz).trans y2
  have kc : (convert 22 9 (.slice none 0 0)).run Try.prog w1 = .ok (.string ⟨#[]⟩) w1 := conv_str (Rd.nil w1 (fun _ => True) byteV)
  clear hb z0 z1 z2 y0 y1 y2
  go_wp2_with fail
  obtain ⟨g0, g1, g2⟩ := got_cells (v0 := .int .i64 0) (v1 := .string ⟨#[]⟩) (v2 := .int .i64 4) k0 k1 k2
  refine bodyPost_ret (v := .agg #[.int .i64 0, .string ⟨#[]⟩, .int .i64 4]) ?_ rfl ⟨0, _, 4, rfl, by simp, ((hbe.setCell (by show w.heap.size ≤ w.heap.size + 1; omega) _).setCell (by show w.heap.size ≤ w.heap.size + 1; omega) _).setCell (by show w.heap.size ≤ w.heap.size + 1; omega) _⟩
  simp [results, Try.results25, go_sem, g0, g1, g2]

set_option maxRecDepth 100000 in
set_option maxHeartbeats 1000000 in
theorem do_nil_2 (w : World) (n wh : Int) (ab : Option Addr) (nb cb : Nat) : Calls Try.prog 25 #[.pointer none, .agg #[.int .i64 2, .int .i64 n, .int .i64 wh, .slice ab nb cb]] w (NilPost w 2) := by
  have hb0 : Below w.heap.size w (doW w 2 n wh ab nb cb) := ((Below.refl _ w).alloc (Nat.le_refl _) _).alloc (by simp) _
  have hsz : w.heap.size + 1 < (doW w 2 n wh ab nb cb).heap.size := by simp [doW]
  have z0 : (doW w 2 n wh ab nb cb).cell? ⟨w.heap.size + 1, 0, none⟩ = some (.int .i64 0) := by simp [doW, go_sem]
  have z1 : (doW w 2 n wh ab nb cb).cell? ⟨w.heap.size + 1, 1, none⟩ = some (.string ByteArray.empty) := by simp [doW, go_sem]
  have z2 : (doW w 2 n wh ab nb cb).cell? ⟨w.heap.size + 1, 2, none⟩ = some (.int .i64 0) := by simp [doW, go_sem]
  have y0 : (doW w 2 n wh ab nb cb).frozen? ⟨w.heap.size + 1, 0, none⟩ = false := by simp [doW, go_sem]
  have y1 : (doW w 2 n wh ab nb cb).frozen? ⟨w.heap.size + 1, 1, none⟩ = false := by simp [doW, go_sem]
  have y2 : (doW w 2 n wh ab nb cb).frozen? ⟨w.heap.size + 1, 2, none⟩ = false := by simp [doW, go_sem]
  go_enter Try.func25, Try.ntmps25
  go_wp2_with fail
  refine (read_nil _ _).mono ?_
  rintro e w1 ⟨rfl, hb⟩
  have hbe : Below w.heap.size w w1 := hb0.trans (Below.mono hb (by simp <;> omega))
  have k0 := (hb.cell (p := ⟨w.heap.size + 1, 0, none⟩) hsz).trans z0
  have k1 := (hb.cell (p := ⟨w.heap.size + 1, 1, none⟩) hsz).trans z1
  have k2 := (hb.cell (p := ⟨w.heap.size + 1, 2, none⟩) hsz).trans z2
  have j0 := (hb.frozen (p := ⟨w.heap.size + 1, 0, none⟩) hsz).trans y0
  have j1 := (hb.frozen (p := ⟨w.heap.size + 1, 1, none⟩) hsz).trans y1
  have j2 := (hb.frozen (p := ⟨w.heap.size + 1, 2, none⟩) hsz).trans y2
  have kc : (convert 22 9 (.slice none 0 0)).run Try.prog w1 = .ok (.string ⟨#[]⟩) w1 := conv_str (Rd.nil w1 (fun _ => True) byteV)
  clear hb z0 z1 z2 y0 y1 y2
  go_wp2_with fail
  obtain ⟨g0, g1, g2⟩ := got_cells (v0 := .int .i64 0) (v1 := .string ⟨#[]⟩) (v2 := .int .i64 4) k0 k1 k2
  refine bodyPost_ret (v := .agg #[.int .i64 0, .string ⟨#[]⟩, .int .i64 4]) ?_ rfl ⟨0, _, 4, rfl, by simp, ((hbe.setCell (by show w.heap.size ≤ w.heap.size + 1; omega) _).setCell (by show w.heap.size ≤ w.heap.size + 1; omega) _).setCell (by show w.heap.size ≤ w.heap.size + 1; omega) _⟩
  simp [results, Try.results25, go_sem, g0, g1, g2]

set_option maxRecDepth 100000 in
set_option maxHeartbeats 1000000 in
theorem do_nil_3 (w : World) (n wh : Int) (ab : Option Addr) (nb cb : Nat) : Calls Try.prog 25 #[.pointer none, .agg #[.int .i64 3, .int .i64 n, .int .i64 wh, .slice ab nb cb]] w (NilPost w 3) := by
  have hb0 : Below w.heap.size w (doW w 3 n wh ab nb cb) := ((Below.refl _ w).alloc (Nat.le_refl _) _).alloc (by simp) _
  have hsz : w.heap.size + 1 < (doW w 3 n wh ab nb cb).heap.size := by simp [doW]
  have z0 : (doW w 3 n wh ab nb cb).cell? ⟨w.heap.size + 1, 0, none⟩ = some (.int .i64 0) := by simp [doW, go_sem]
  have z1 : (doW w 3 n wh ab nb cb).cell? ⟨w.heap.size + 1, 1, none⟩ = some (.string ByteArray.empty) := by simp [doW, go_sem]
  have z2 : (doW w 3 n wh ab nb cb).cell? ⟨w.heap.size + 1, 2, none⟩ = some (.int .i64 0) := by simp [doW, go_sem]
  have y0 : (doW w 3 n wh ab nb cb).frozen? ⟨w.heap.size + 1, 0, none⟩ = false := by simp [doW, go_sem]
  have y1 : (doW w 3 n wh ab nb cb).frozen? ⟨w.heap.size + 1, 1, none⟩ = false := by simp [doW, go_sem]
  have y2 : (doW w 3 n wh ab nb cb).frozen? ⟨w.heap.size + 1, 2, none⟩ = false := by simp [doW, go_sem]
  go_enter Try.func25, Try.ntmps25
  go_wp2_with fail
  refine (write_nil _ _).mono ?_
  rintro e w1 ⟨rfl, hb⟩
  have hbe : Below w.heap.size w w1 := hb0.trans (Below.mono hb (by simp <;> omega))
  have k0 := (hb.cell (p := ⟨w.heap.size + 1, 0, none⟩) hsz).trans z0
  have k1 := (hb.cell (p := ⟨w.heap.size + 1, 1, none⟩) hsz).trans z1
  have k2 := (hb.cell (p := ⟨w.heap.size + 1, 2, none⟩) hsz).trans z2
  have j0 := (hb.frozen (p := ⟨w.heap.size + 1, 0, none⟩) hsz).trans y0
  have j1 := (hb.frozen (p := ⟨w.heap.size + 1, 1, none⟩) hsz).trans y1
  have j2 := (hb.frozen (p := ⟨w.heap.size + 1, 2, none⟩) hsz).trans y2
  have kc : (convert 22 9 (.slice none 0 0)).run Try.prog w1 = .ok (.string ⟨#[]⟩) w1 := conv_str (Rd.nil w1 (fun _ => True) byteV)
  clear hb z0 z1 z2 y0 y1 y2
  go_wp2_with fail
  obtain ⟨g0, g1, g2⟩ := got_cells (v0 := .int .i64 0) (v1 := .string ⟨#[]⟩) (v2 := .int .i64 4) k0 k1 k2
  refine bodyPost_ret (v := .agg #[.int .i64 0, .string ⟨#[]⟩, .int .i64 4]) ?_ rfl ⟨0, _, 4, rfl, by simp, ((hbe.setCell (by show w.heap.size ≤ w.heap.size + 1; omega) _).setCell (by show w.heap.size ≤ w.heap.size + 1; omega) _).setCell (by show w.heap.size ≤ w.heap.size + 1; omega) _⟩
  simp [results, Try.results25, go_sem, g0, g1, g2]

set_option maxRecDepth 100000 in
set_option maxHeartbeats 1000000 in
theorem do_nil_4 (w : World) (n wh : Int) (ab : Option Addr) (nb cb : Nat) : Calls Try.prog 25 #[.pointer none, .agg #[.int .i64 4, .int .i64 n, .int .i64 wh, .slice ab nb cb]] w (NilPost w 4) := by
  have hb0 : Below w.heap.size w (doW w 4 n wh ab nb cb) := ((Below.refl _ w).alloc (Nat.le_refl _) _).alloc (by simp) _
  have hsz : w.heap.size + 1 < (doW w 4 n wh ab nb cb).heap.size := by simp [doW]
  have z0 : (doW w 4 n wh ab nb cb).cell? ⟨w.heap.size + 1, 0, none⟩ = some (.int .i64 0) := by simp [doW, go_sem]
  have z1 : (doW w 4 n wh ab nb cb).cell? ⟨w.heap.size + 1, 1, none⟩ = some (.string ByteArray.empty) := by simp [doW, go_sem]
  have z2 : (doW w 4 n wh ab nb cb).cell? ⟨w.heap.size + 1, 2, none⟩ = some (.int .i64 0) := by simp [doW, go_sem]
  have y0 : (doW w 4 n wh ab nb cb).frozen? ⟨w.heap.size + 1, 0, none⟩ = false := by simp [doW, go_sem]
  have y1 : (doW w 4 n wh ab nb cb).frozen? ⟨w.heap.size + 1, 1, none⟩ = false := by simp [doW, go_sem]
  have y2 : (doW w 4 n wh ab nb cb).frozen? ⟨w.heap.size + 1, 2, none⟩ = false := by simp [doW, go_sem]
  go_enter Try.func25, Try.ntmps25
  go_wp2_with fail
  refine (flush_nil _).mono ?_
  rintro e w1 ⟨rfl, hb⟩
  have hbe : Below w.heap.size w w1 := hb0.trans (Below.mono hb (by simp <;> omega))
  have k0 := (hb.cell (p := ⟨w.heap.size + 1, 0, none⟩) hsz).trans z0
  have k1 := (hb.cell (p := ⟨w.heap.size + 1, 1, none⟩) hsz).trans z1
  have k2 := (hb.cell (p := ⟨w.heap.size + 1, 2, none⟩) hsz).trans z2
  have j0 := (hb.frozen (p := ⟨w.heap.size + 1, 0, none⟩) hsz).trans y0
  have j1 := (hb.frozen (p := ⟨w.heap.size + 1, 1, none⟩) hsz).trans y1
  have j2 := (hb.frozen (p := ⟨w.heap.size + 1, 2, none⟩) hsz).trans y2
  have kc : (convert 22 9 (.slice none 0 0)).run Try.prog w1 = .ok (.string ⟨#[]⟩) w1 := conv_str (Rd.nil w1 (fun _ => True) byteV)
  clear hb z0 z1 z2 y0 y1 y2
  go_wp2_with fail
  obtain ⟨g0, g1, g2⟩ := got_cells (v0 := .int .i64 0) (v1 := .string ⟨#[]⟩) (v2 := .int .i64 4) k0 k1 k2
  refine bodyPost_ret (v := .agg #[.int .i64 0, .string ⟨#[]⟩, .int .i64 4]) ?_ rfl ⟨0, _, 4, rfl, by simp, ((hbe.setCell (by show w.heap.size ≤ w.heap.size + 1; omega) _).setCell (by show w.heap.size ≤ w.heap.size + 1; omega) _).setCell (by show w.heap.size ≤ w.heap.size + 1; omega) _⟩
  simp [results, Try.results25, go_sem, g0, g1, g2]

set_option maxRecDepth 100000 in
set_option maxHeartbeats 1000000 in
theorem do_nil_5 (w : World) (n wh : Int) (ab : Option Addr) (nb cb : Nat) : Calls Try.prog 25 #[.pointer none, .agg #[.int .i64 5, .int .i64 n, .int .i64 wh, .slice ab nb cb]] w (NilPost w 5) := by
  have hb0 : Below w.heap.size w (doW w 5 n wh ab nb cb) := ((Below.refl _ w).alloc (Nat.le_refl _) _).alloc (by simp) _
  have hsz : w.heap.size + 1 < (doW w 5 n wh ab nb cb).heap.size := by simp [doW]
  have z0 : (doW w 5 n wh ab nb cb).cell? ⟨w.heap.size + 1, 0, none⟩ = some (.int .i64 0) := by simp [doW, go_sem]
  have z1 : (doW w 5 n wh ab nb cb).cell? ⟨w.heap.size + 1, 1, none⟩ = some (.string ByteArray.empty) := by simp [doW, go_sem]
  have z2 : (doW w 5 n wh ab nb cb).cell? ⟨w.heap.size + 1, 2, none⟩ = some (.int .i64 0) := by simp [doW, go_sem]
  have y0 : (doW w 5 n wh ab nb cb).frozen? ⟨w.heap.size + 1, 0, none⟩ = false := by simp [doW, go_sem]
  have y1 : (doW w 5 n wh ab nb cb).frozen? ⟨w.heap.size + 1, 1, none⟩ = false := by simp [doW, go_sem]
  have y2 : (doW w 5 n wh ab nb cb).frozen? ⟨w.heap.size + 1, 2, none⟩ = false := by simp [doW, go_sem]
  go_enter Try.func25, Try.ntmps25
  go_wp2_with fail
  refine (seek_nil _ _ _).mono ?_
  rintro e w1 ⟨rfl, hb⟩
  have hbe : Below w.heap.size w w1 := hb0.trans (Below.mono hb (by simp <;> omega))
  have k0 := (hb.cell (p := ⟨w.heap.size + 1, 0, none⟩) hsz).trans z0
  have k1 := (hb.cell (p := ⟨w.heap.size + 1, 1, none⟩) hsz).trans z1
  have k2 := (hb.cell (p := ⟨w.heap.size + 1, 2, none⟩) hsz).trans z2
  have j0 := (hb.frozen (p := ⟨w.heap.size + 1, 0, none⟩) hsz).trans y0
  have j1 := (hb.frozen (p := ⟨w.heap.size + 1, 1, none⟩) hsz).trans y1
  have j2 := (hb.frozen (p := ⟨w.heap.size + 1, 2, none⟩) hsz).trans y2
  have kc : (convert 22 9 (.slice none 0 0)).run Try.prog w1 = .ok (.string ⟨#[]⟩) w1 := conv_str (Rd.nil w1 (fun _ => True) byteV)
  clear hb z0 z1 z2 y0 y1 y2
  go_wp2_with fail
  obtain ⟨g0, g1, g2⟩ := got_cells (v0 := .int .i64 0) (v1 := .string ⟨#[]⟩) (v2 := .int .i64 4) k0 k1 k2
  refine bodyPost_ret (v := .agg #[.int .i64 0, .string ⟨#[]⟩, .int .i64 4]) ?_ rfl ⟨0, _, 4, rfl, by simp, ((hbe.setCell (by show w.heap.size ≤ w.heap.size + 1; omega) _).setCell (by show w.heap.size ≤ w.heap.size + 1; omega) _).setCell (by show w.heap.size ≤ w.heap.size + 1; omega) _⟩
  simp [results, Try.results25, go_sem, g0, g1, g2]

set_option maxRecDepth 100000 in
set_option maxHeartbeats 1000000 in
theorem do_nil_6 (w : World) (n wh : Int) (ab : Option Addr) (nb cb : Nat) : Calls Try.prog 25 #[.pointer none, .agg #[.int .i64 6, .int .i64 n, .int .i64 wh, .slice ab nb cb]] w (NilPost w 6) := by
  have hb0 : Below w.heap.size w (doW w 6 n wh ab nb cb) := ((Below.refl _ w).alloc (Nat.le_refl _) _).alloc (by simp) _
  have hsz : w.heap.size + 1 < (doW w 6 n wh ab nb cb).heap.size := by simp [doW]
  have z0 : (doW w 6 n wh ab nb cb).cell? ⟨w.heap.size + 1, 0, none⟩ = some (.int .i64 0) := by simp [doW, go_sem]
  have z1 : (doW w 6 n wh ab nb cb).cell? ⟨w.heap.size + 1, 1, none⟩ = some (.string ByteArray.empty) := by simp [doW, go_sem]
  have z2 : (doW w 6 n wh ab nb cb).cell? ⟨w.heap.size + 1, 2, none⟩ = some (.int .i64 0) := by simp [doW, go_sem]
  have y0 : (doW w 6 n wh ab nb cb).frozen? ⟨w.heap.size + 1, 0, none⟩ = false := by simp [doW, go_sem]
  have y1 : (doW w 6 n wh ab nb cb).frozen? ⟨w.heap.size + 1, 1, none⟩ = false := by simp [doW, go_sem]
  have y2 : (doW w 6 n wh ab nb cb).frozen? ⟨w.heap.size + 1, 2, none⟩ = false := by simp [doW, go_sem]
  go_enter Try.func25, Try.ntmps25
  go_wp2_with fail
  refine (tell_nil _).mono ?_
  rintro e w1 ⟨rfl, hb⟩
  have hbe : Below w.heap.size w w1 := hb0.trans (Below.mono hb (by simp <;> omega))
  have k0 := (hb.cell (p := ⟨w.heap.size + 1, 0, none⟩) hsz).trans z0
  have k1 := (hb.cell (p := ⟨w.heap.size + 1, 1, none⟩) hsz).trans z1
  have k2 := (hb.cell (p := ⟨w.heap.size + 1, 2, none⟩) hsz).trans z2
  have j0 := (hb.frozen (p := ⟨w.heap.size + 1, 0, none⟩) hsz).trans y0
  have j1 := (hb.frozen (p := ⟨w.heap.size + 1, 1, none⟩) hsz).trans y1
  have j2 := (hb.frozen (p := ⟨w.heap.size + 1, 2, none⟩) hsz).trans y2
  have kc : (convert 22 9 (.slice none 0 0)).run Try.prog w1 = .ok (.string ⟨#[]⟩) w1 := conv_str (Rd.nil w1 (fun _ => True) byteV)
  clear hb z0 z1 z2 y0 y1 y2
  go_wp2_with fail
  obtain ⟨g0, g1, g2⟩ := got_cells (v0 := .int .i64 0) (v1 := .string ⟨#[]⟩) (v2 := .int .i64 4) k0 k1 k2
  refine bodyPost_ret (v := .agg #[.int .i64 0, .string ⟨#[]⟩, .int .i64 4]) ?_ rfl ⟨0, _, 4, rfl, by simp, ((hbe.setCell (by show w.heap.size ≤ w.heap.size + 1; omega) _).setCell (by show w.heap.size ≤ w.heap.size + 1; omega) _).setCell (by show w.heap.size ≤ w.heap.size + 1; omega) _⟩
  simp [results, Try.results25, go_sem, g0, g1, g2]

set_option maxRecDepth 100000 in
set_option maxHeartbeats 1000000 in
theorem do_nil_7 (w : World) (n wh : Int) (ab : Option Addr) (nb cb : Nat) : Calls Try.prog 25 #[.pointer none, .agg #[.int .i64 7, .int .i64 n, .int .i64 wh, .slice ab nb cb]] w (NilPost w 7) := by
  have hb0 : Below w.heap.size w (doW w 7 n wh ab nb cb) := ((Below.refl _ w).alloc (Nat.le_refl _) _).alloc (by simp) _
  have hsz : w.heap.size + 1 < (doW w 7 n wh ab nb cb).heap.size := by simp [doW]
  have z0 : (doW w 7 n wh ab nb cb).cell? ⟨w.heap.size + 1, 0, none⟩ = some (.int .i64 0) := by simp [doW, go_sem]
  have z1 : (doW w 7 n wh ab nb cb).cell? ⟨w.heap.size + 1, 1, none⟩ = some (.string ByteArray.empty) := by simp [doW, go_sem]
  have z2 : (doW w 7 n wh ab nb cb).cell? ⟨w.heap.size + 1, 2, none⟩ = some (.int .i64 0) := by simp [doW, go_sem]
  have y0 : (doW w 7 n wh ab nb cb).frozen? ⟨w.heap.size + 1, 0, none⟩ = false := by simp [doW, go_sem]
  have y1 : (doW w 7 n wh ab nb cb).frozen? ⟨w.heap.size + 1, 1, none⟩ = false := by simp [doW, go_sem]
  have y2 : (doW w 7 n wh ab nb cb).frozen? ⟨w.heap.size + 1, 2, none⟩ = false := by simp [doW, go_sem]
  go_enter Try.func25, Try.ntmps25
  go_wp2_with fail
  refine (clear_nil _).mono ?_
  rintro e w1 ⟨rfl, hb⟩
  have hb2 : Below (doW w 7 n wh ab nb cb).heap.size (doW w 7 n wh ab nb cb) w1 := by rw [← hb]; exact Below.refl _ _
  clear hb
  have hb := hb2
  clear hb2
  have hbe : Below w.heap.size w w1 := hb0.trans (Below.mono hb (by simp <;> omega))
  have k0 := (hb.cell (p := ⟨w.heap.size + 1, 0, none⟩) hsz).trans z0
  have k1 := (hb.cell (p := ⟨w.heap.size + 1, 1, none⟩) hsz).trans z1
  have k2 := (hb.cell (p := ⟨w.heap.size + 1, 2, none⟩) hsz).trans z2
  have j0 := (hb.frozen (p := ⟨w.heap.size + 1, 0, none⟩) hsz).trans y0
  have j1 := (hb.frozen (p := ⟨w.heap.size + 1, 1, none⟩) hsz).trans y1
  have j2 := (hb.frozen (p := ⟨w.heap.size + 1, 2, none⟩) hsz).trans y2
  have kc : (convert 22 9 (.slice none 0 0)).run Try.prog w1 = .ok (.string ⟨#[]⟩) w1 := conv_str (Rd.nil w1 (fun _ => True) byteV)
  clear hb z0 z1 z2 y0 y1 y2
  go_wp2_with fail
  obtain ⟨g0, g1, g2⟩ := got_cells (v0 := .int .i64 0) (v1 := .string ⟨#[]⟩) (v2 := .int .i64 0) k0 k1 k2
  refine bodyPost_ret (v := .agg #[.int .i64 0, .string ⟨#[]⟩, .int .i64 0]) ?_ rfl ⟨0, _, 0, rfl, by simp, ((hbe.setCell (by show w.heap.size ≤ w.heap.size + 1; omega) _).setCell (by show w.heap.size ≤ w.heap.size + 1; omega) _).setCell (by show w.heap.size ≤ w.heap.size + 1; omega) _⟩
  simp [results, Try.results25, go_sem, g0, g1, g2]

set_option maxRecDepth 100000 in
set_option maxHeartbeats 1000000 in
theorem do_nil_8 (w : World) (n wh : Int) (ab : Option Addr) (nb cb : Nat) : Calls Try.prog 25 #[.pointer none, .agg #[.int .i64 8, .int .i64 n, .int .i64 wh, .slice ab nb cb]] w (NilPost w 8) := by
  have hb0 : Below w.heap.size w (doW w 8 n wh ab nb cb) := ((Below.refl _ w).alloc (Nat.le_refl _) _).alloc (by simp) _
  have hsz : w.heap.size + 1 < (doW w 8 n wh ab nb cb).heap.size := by simp [doW]
  have z0 : (doW w 8 n wh ab nb cb).cell? ⟨w.heap.size + 1, 0, none⟩ = some (.int .i64 0) := by simp [doW, go_sem]
  have z1 : (doW w 8 n wh ab nb cb).cell? ⟨w.heap.size + 1, 1, none⟩ = some (.string ByteArray.empty) := by simp [doW, go_sem]
  have z2 : (doW w 8 n wh ab nb cb).cell? ⟨w.heap.size + 1, 2, none⟩ = some (.int .i64 0) := by simp [doW, go_sem]
  have y0 : (doW w 8 n wh ab nb cb).frozen? ⟨w.heap.size + 1, 0, none⟩ = false := by simp [doW, go_sem]
  have y1 : (doW w 8 n wh ab nb cb).frozen? ⟨w.heap.size + 1, 1, none⟩ = false := by simp [doW, go_sem]
  have y2 : (doW w 8 n wh ab nb cb).frozen? ⟨w.heap.size + 1, 2, none⟩ = false := by simp [doW, go_sem]
  go_enter Try.func25, Try.ntmps25
  go_wp2_with fail
  refine (close_nil _).mono ?_
  rintro e w1 ⟨rfl, hb⟩
  have hbe : Below w.heap.size w w1 := hb0.trans (Below.mono hb (by simp <;> omega))
  have k0 := (hb.cell (p := ⟨w.heap.size + 1, 0, none⟩) hsz).trans z0
  have k1 := (hb.cell (p := ⟨w.heap.size + 1, 1, none⟩) hsz).trans z1
  have k2 := (hb.cell (p := ⟨w.heap.size + 1, 2, none⟩) hsz).trans z2
  have j0 := (hb.frozen (p := ⟨w.heap.size + 1, 0, none⟩) hsz).trans y0
  have j1 := (hb.frozen (p := ⟨w.heap.size + 1, 1, none⟩) hsz).trans y1
  have j2 := (hb.frozen (p := ⟨w.heap.size + 1, 2, none⟩) hsz).trans y2
  have kc : (convert 22 9 (.slice none 0 0)).run Try.prog w1 = .ok (.string ⟨#[]⟩) w1 := conv_str (Rd.nil w1 (fun _ => True) byteV)
  clear hb z0 z1 z2 y0 y1 y2
  go_wp2_with fail
  obtain ⟨g0, g1, g2⟩ := got_cells (v0 := .int .i64 0) (v1 := .string ⟨#[]⟩) (v2 := .int .i64 4) k0 k1 k2
  refine bodyPost_ret (v := .agg #[.int .i64 0, .string ⟨#[]⟩, .int .i64 4]) ?_ rfl ⟨0, _, 4, rfl, by simp, ((hbe.setCell (by show w.heap.size ≤ w.heap.size + 1; omega) _).setCell (by show w.heap.size ≤ w.heap.size + 1; omega) _).setCell (by show w.heap.size ≤ w.heap.size + 1; omega) _⟩
  simp [results, Try.results25, go_sem, g0, g1, g2]
end Go.Proofs.Ytgihclflndlomaa
