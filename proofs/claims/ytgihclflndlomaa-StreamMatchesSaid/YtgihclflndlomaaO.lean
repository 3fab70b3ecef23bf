/- clone of a device. -/
import Derived.Test.YtgihclflndlomaaI
namespace Go.Proofs.Ytgihclflndlomaa
open Go.RowKit

/-- What clone hands back. -/
def DevPost (w : World) (data : List UInt8) (max : Int) (plan : List Int) (e : Ending) (w' : World) : Prop :=
  ∃ a n c a2 n2 c2, e = .returned (.agg #[.slice a n c, .int .i64 max, .slice a2 n2 c2]) ∧ Row 5 byteV w' (fun b => w.heap.size ≤ b ∧ b < w'.heap.size) (.slice a n c) data ∧
    Row 3 intV w' (fun b => w.heap.size ≤ b ∧ b < w'.heap.size) (.slice a2 n2 c2) plan ∧ Below w.heap.size w w'

set_option maxRecDepth 100000 in
set_option maxHeartbeats 1000000 in
theorem clone_calls (w : World) (any : Nat → Prop) (a a2 : Option Addr) (n c n2 c2 : Nat) (max : Int) (data : List UInt8) (plan : List Int) (hd : Rd w any byteV (.slice a n c) data) (hp : Rd w any intV (.slice a2 n2 c2) plan)
    (hl1 : data.length * 1 ≤ 140737488355328) (hl2 : plan.length * 8 ≤ 140737488355328) :
    Calls Try.prog 31 #[.agg #[.slice a n c, .int .i64 max, .slice a2 n2 c2]] w (DevPost w data max plan) := by
  obtain ⟨W0, hW0⟩ : ∃ W0, (w.alloc (.cells #[.slice a n c, .int .i64 max, .slice a2 n2 c2] 25)).alloc (.cells #[.slice none 0 0, .int .i64 0, .slice none 0 0] 25) = W0 := ⟨_, rfl⟩
  have hb0 : Below w.heap.size w W0 := by rw [← hW0]; exact ((Below.refl _ w).alloc (Nat.le_refl _) _).alloc (by simp) _
  have hsz : W0.heap.size = w.heap.size + 2 := by rw [← hW0]; simp
  have c0 : W0.cell? ⟨w.heap.size, 0, none⟩ = some (.slice a n c) := by rw [← hW0]; simp [go_sem]
  have c1 : W0.cell? ⟨w.heap.size, 1, none⟩ = some (.int .i64 max) := by rw [← hW0]; simp [go_sem]
  have c2' : W0.cell? ⟨w.heap.size, 2, none⟩ = some (.slice a2 n2 c2) := by rw [← hW0]; simp [go_sem]
  have z0 : W0.cell? ⟨w.heap.size + 1, 0, none⟩ = some (.slice none 0 0) := by rw [← hW0]; simp [go_sem]
  have z1 : W0.cell? ⟨w.heap.size + 1, 1, none⟩ = some (.int .i64 0) := by rw [← hW0]; simp [go_sem]
  have z2 : W0.cell? ⟨w.heap.size + 1, 2, none⟩ = some (.slice none 0 0) := by rw [← hW0]; simp [go_sem]
  have y0 : W0.frozen? ⟨w.heap.size + 1, 0, none⟩ = false := by rw [← hW0]; simp [go_sem]
  have y1 : W0.frozen? ⟨w.heap.size + 1, 1, none⟩ = false := by rw [← hW0]; simp [go_sem]
  have y2 : W0.frozen? ⟨w.heap.size + 1, 2, none⟩ = false := by rw [← hW0]; simp [go_sem]
  have l0 : w.heap.size < W0.heap.size := by omega
  have l1 : w.heap.size + 1 < W0.heap.size := by omega
  have hne : ¬ w.heap.size = w.heap.size + 1 := by omega
  have hd' : Rd W0.drew any byteV (.slice a n c) data := hd.keep (fun b _ hb => hb0.block b hb) (fun _ h _ => h)
  have Hd := Lib.hid hd'
  have hp' : Rd W0.drew any intV (.slice a2 n2 c2) plan := hp.keep (fun b _ hb => hb0.block b hb) (fun _ h _ => h)
  have Hp := Lib.hid hp'
  have Hl1 := Lib.hid hl1
  have Hl2 := Lib.hid hl2
  clear hd hp hd' hp' hl1 hl2 hsz
  go_enter Try.func31, Try.ntmps31
  go_wp2_with fail
  clear hW0
  go_region_held3 (fun w' => w'.cell? ⟨w.heap.size, 0, none⟩ = some (.slice a n c) ∧ w'.cell? ⟨w.heap.size, 1, none⟩ = some (.int .i64 max) ∧ w'.cell? ⟨w.heap.size, 2, none⟩ = some (.slice a2 n2 c2))
    (first | exact ⟨c0, c1, c2'⟩ | exact ⟨d0, d1, d2⟩ | exact ⟨e0, e1, e2⟩ | (refine ⟨?_, ?_, ?_⟩ <;> (simp only [cell_set_block _ hne, e0, e1, e2])))
    (first
      | (go_at_call 38; refine (clone_bytes _ _ _ _ Hd.out Hl1.out).mono ?_; rintro e W1 ⟨a5, n5, c5, rfl, hrow1, hbl1⟩; have d0 := (hbl1.cell (p := ⟨w.heap.size, 0, none⟩) l0).trans c0; have d1 := (hbl1.cell (p := ⟨w.heap.size, 1, none⟩) l0).trans c1; have d2 := (hbl1.cell (p := ⟨w.heap.size, 2, none⟩) l0).trans c2'; dsimp only)
      | (go_at_call 58; refine (clone_ints _ _ _ _ (Hp.out.keep (fun b _ hb => hbl1.block b hb) (fun _ h _ => h)) Hl2.out).mono ?_; rintro e W2 ⟨a6, n6, c6, rfl, hrow2, hbl2⟩; have hbl3 := hbl1.trans (hbl2.mono hbl1.size); have e0 := (hbl3.cell (p := ⟨w.heap.size, 0, none⟩) l0).trans c0; have e1 := (hbl3.cell (p := ⟨w.heap.size, 1, none⟩) l0).trans c1; have e2 := (hbl3.cell (p := ⟨w.heap.size, 2, none⟩) l0).trans c2'; have k0 := (hbl3.cell (p := ⟨w.heap.size + 1, 0, none⟩) l1).trans z0; have k1 := (hbl3.cell (p := ⟨w.heap.size + 1, 1, none⟩) l1).trans z1; have k2 := (hbl3.cell (p := ⟨w.heap.size + 1, 2, none⟩) l1).trans z2; have j0 := (hbl3.frozen (p := ⟨w.heap.size + 1, 0, none⟩) l1).trans y0; have j1 := (hbl3.frozen (p := ⟨w.heap.size + 1, 1, none⟩) l1).trans y1; have j2 := (hbl3.frozen (p := ⟨w.heap.size + 1, 2, none⟩) l1).trans y2; dsimp only))
  have kk : (((W2.setCell ⟨w.heap.size + 1, 0, none⟩ (.slice a5 n5 c5)).setCell ⟨w.heap.size + 1, 1, none⟩ (.int .i64 max)).setCell ⟨w.heap.size + 1, 2, none⟩ (.slice a6 n6 c6)).cell? ⟨w.heap.size + 1, 0, none⟩ = some (.slice a5 n5 c5) :=
    (cell_set_off _ (by decide)).trans ((cell_set_off _ (by decide)).trans (World.cell?_setCell_same _ _ _ k0))
  have kk1 : (((W2.setCell ⟨w.heap.size + 1, 0, none⟩ (.slice a5 n5 c5)).setCell ⟨w.heap.size + 1, 1, none⟩ (.int .i64 max)).setCell ⟨w.heap.size + 1, 2, none⟩ (.slice a6 n6 c6)).cell? ⟨w.heap.size + 1, 1, none⟩ = some (.int .i64 max) :=
    (cell_set_off _ (by decide)).trans (World.cell?_setCell_same _ _ _ ((cell_set_off _ (by decide)).trans k1))
  have kk2 : (((W2.setCell ⟨w.heap.size + 1, 0, none⟩ (.slice a5 n5 c5)).setCell ⟨w.heap.size + 1, 1, none⟩ (.int .i64 max)).setCell ⟨w.heap.size + 1, 2, none⟩ (.slice a6 n6 c6)).cell? ⟨w.heap.size + 1, 2, none⟩ = some (.slice a6 n6 c6) :=
    World.cell?_setCell_same _ _ _ ((cell_set_off _ (by decide)).trans ((cell_set_off _ (by decide)).trans k2))
  go_wp2_with fail
  refine bodyPost_ret (v := .agg #[.slice a5 n5 c5, .int .i64 max, .slice a6 n6 c6]) ?_ rfl ⟨a5, n5, c5, a6, n6, c6, rfl, ?_, ?_, ?_⟩
  · simp [results, Try.results31, go_sem, kk, kk1, kk2]
  · refine hrow1.keep (fun b hb hlt => ?_) (fun b hb hlt => ⟨?_, ?_⟩)
    · have hne2 : b ≠ w.heap.size + 1 := by have h1 : W0.heap.size ≤ b := hb.1; omega
      rw [Below.heap_setCell _ _ _ _ hne2, Below.heap_setCell _ _ _ _ hne2, Below.heap_setCell _ _ _ _ hne2]
      exact hbl2.block b hlt
    · have h1 : W0.heap.size ≤ b := hb.1
      omega
    · have := hbl2.size; simp; omega
  · refine hrow2.keep (fun b hb hlt => ?_) (fun b hb hlt => ⟨?_, ?_⟩)
    · have hne2 : b ≠ w.heap.size + 1 := by have h1 : W1.heap.size ≤ b := hb.1; have h2 : W0.heap.size ≤ W1.heap.size := hbl1.size; omega
      rw [Below.heap_setCell _ _ _ _ hne2, Below.heap_setCell _ _ _ _ hne2, Below.heap_setCell _ _ _ _ hne2]
    · have h1 : W1.heap.size ≤ b := hb.1
      have h2 : W0.heap.size ≤ W1.heap.size := hbl1.size
      omega
    · simp; omega
  · have h3 : Below w.heap.size W0 W2 := ⟨hbl3.os, hbl3.tape, hbl3.output, hbl3.size, fun k hk => hbl3.block k (Nat.lt_trans hk l0)⟩
    exact (((hb0.trans h3).setCell (by simp) _).setCell (by simp) _).setCell (by simp) _
end Go.Proofs.Ytgihclflndlomaa
