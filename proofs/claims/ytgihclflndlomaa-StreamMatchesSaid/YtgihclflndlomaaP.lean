/- Device. -/
import Derived.Test.YtgihclflndlomaaO
namespace Go.Proofs.Ytgihclflndlomaa
open Go.RowKit

set_option maxRecDepth 100000 in
set_option maxHeartbeats 1000000 in
theorem device_nil (w : World) : Calls Try.prog 15 #[.pointer none] w (fun e w' => e = .returned (.agg #[.slice none 0 0, .int .i64 0, .slice none 0 0]) ∧ Below w.heap.size w w') := by
  have k0 : ∀ n, ((w.alloc (.cells #[.slice none 0 0, .int .i64 0, .slice none 0 0] 25)).drewN n).cell? ⟨w.heap.size, 0, none⟩ = some (.slice none 0 0) := fun _ => by simp [go_sem]
  have k1 : ∀ n, ((w.alloc (.cells #[.slice none 0 0, .int .i64 0, .slice none 0 0] 25)).drewN n).cell? ⟨w.heap.size, 1, none⟩ = some (.int .i64 0) := fun _ => by simp [go_sem]
  have k2 : ∀ n, ((w.alloc (.cells #[.slice none 0 0, .int .i64 0, .slice none 0 0] 25)).drewN n).cell? ⟨w.heap.size, 2, none⟩ = some (.slice none 0 0) := fun _ => by simp [go_sem]
  have f0 : ∀ n, ((w.alloc (.cells #[.slice none 0 0, .int .i64 0, .slice none 0 0] 25)).drewN n).frozen? ⟨w.heap.size, 0, none⟩ = false := fun _ => by simp [go_sem]
  go_enter Try.func15, Try.ntmps15
  go_wp2_with fail
  refine bodyPost_ret (v := .agg #[.slice none 0 0, .int .i64 0, .slice none 0 0]) ?_ rfl ⟨rfl, (Below.refl _ w).alloc (Nat.le_refl _) _⟩
  simp [results, Try.results15, go_sem]

set_option maxRecDepth 100000 in
set_option maxHeartbeats 1000000 in
theorem device_calls {w : World} {own : Nat → Prop} {bs : Nat} {S : St} {m : Mem} (h : SAtM w own bs S m) (hok : S.Ok) (hpl : S.plan.length * 8 ≤ 140737488355328) :
    Calls Try.prog 15 #[.pointer (some ⟨bs, 0, none⟩)] w (DevPost w S.data S.max S.plan) := by
  obtain ⟨W0, hW0⟩ : ∃ W0, w.alloc (.cells #[.slice none 0 0, .int .i64 0, .slice none 0 0] 25) = W0 := ⟨_, rfl⟩
  have h0 : SAtM W0 own bs S m := by rw [← hW0]; exact h.alloc _
  have hb0 : Below w.heap.size w W0 := by rw [← hW0]; exact (Below.refl _ w).alloc (Nat.le_refl _) _
  obtain ⟨ad, cd, hdv, hdc, hdm⟩ := h0.data.shape
  obtain ⟨ap, cp, hpv, hpc, hpm⟩ := h0.plan.shape
  have c0 : W0.cell? ⟨bs, 0, none⟩ = some (.pointer (some ⟨m.bd, 0, none⟩)) := h0.c 0
  have e0 : W0.cell? ⟨m.bd, 0, none⟩ = some (.slice ad S.data.length cd) := by rw [h0.cd]; simp [Mem.disk, hdv]
  have e1 : W0.cell? ⟨m.bd, 1, none⟩ = some (.int .i64 S.max) := h0.cd 1
  have e2 : W0.cell? ⟨m.bd, 2, none⟩ = some (.slice ap S.plan.length cp) := by rw [h0.cd]; simp [Mem.disk, hpv]
  have z0 : W0.cell? ⟨w.heap.size, 0, none⟩ = some (.slice none 0 0) := by rw [← hW0]; simp [go_sem]
  have z1 : W0.cell? ⟨w.heap.size, 1, none⟩ = some (.int .i64 0) := by rw [← hW0]; simp [go_sem]
  have z2 : W0.cell? ⟨w.heap.size, 2, none⟩ = some (.slice none 0 0) := by rw [← hW0]; simp [go_sem]
  have y0 : W0.frozen? ⟨w.heap.size, 0, none⟩ = false := by rw [← hW0]; simp [go_sem]
  have y1 : W0.frozen? ⟨w.heap.size, 1, none⟩ = false := by rw [← hW0]; simp [go_sem]
  have y2 : W0.frozen? ⟨w.heap.size, 2, none⟩ = false := by rw [← hW0]; simp [go_sem]
  have hl0 : w.heap.size < W0.heap.size := by rw [← hW0]; simp
  have hlb : bs < W0.heap.size := h0.lt _ h0.os
  have hld : m.bd < W0.heap.size := h0.lt _ h0.od
  have hdl : S.data.length * 1 ≤ 140737488355328 := by have := hok.dlen; have := hok.max1; omega
  have Hcl := Lib.hid (fun W (hW : Below W0.heap.size W0 W) => clone_calls W own ad ap S.data.length cd S.plan.length cp S.max S.data S.plan (hdv ▸ (h0.data.rd.keep (fun b hb hl => hW.block b hl) (fun b hb _ => hb.1))) (hpv ▸ (h0.plan.keep (fun b hb hl => hW.block b hl) (fun b hb _ => hb.1))) hdl hpl)
  clear h h0 hok hdv hpv hdc hdm hpc hpm hdl hpl
  go_enter Try.func15, Try.ntmps15
  go_wp2_with fail
  refine (Hcl.out W0 (Below.refl _ _)).mono ?_
  rintro e W1 ⟨a5, n5, c5, a6, n6, c6, rfl, hrow1, hrow2, hbl⟩
  have k0 := (hbl.cell (p := ⟨w.heap.size, 0, none⟩) hl0).trans z0
  have k1 := (hbl.cell (p := ⟨w.heap.size, 1, none⟩) hl0).trans z1
  have k2 := (hbl.cell (p := ⟨w.heap.size, 2, none⟩) hl0).trans z2
  have j0 := (hbl.frozen (p := ⟨w.heap.size, 0, none⟩) hl0).trans y0
  have j1 := (hbl.frozen (p := ⟨w.heap.size, 1, none⟩) hl0).trans y1
  have j2 := (hbl.frozen (p := ⟨w.heap.size, 2, none⟩) hl0).trans y2
  go_wp2_with fail
  have kk : (((W1.setCell ⟨w.heap.size, 0, none⟩ (.slice a5 n5 c5)).setCell ⟨w.heap.size, 1, none⟩ (.int .i64 S.max)).setCell ⟨w.heap.size, 2, none⟩ (.slice a6 n6 c6)).cell? ⟨w.heap.size, 0, none⟩ = some (.slice a5 n5 c5) :=
    (cell_set_off _ (by decide)).trans ((cell_set_off _ (by decide)).trans (World.cell?_setCell_same _ _ _ k0))
  have kk1 : (((W1.setCell ⟨w.heap.size, 0, none⟩ (.slice a5 n5 c5)).setCell ⟨w.heap.size, 1, none⟩ (.int .i64 S.max)).setCell ⟨w.heap.size, 2, none⟩ (.slice a6 n6 c6)).cell? ⟨w.heap.size, 1, none⟩ = some (.int .i64 S.max) :=
    (cell_set_off _ (by decide)).trans (World.cell?_setCell_same _ _ _ ((cell_set_off _ (by decide)).trans k1))
  have kk2 : (((W1.setCell ⟨w.heap.size, 0, none⟩ (.slice a5 n5 c5)).setCell ⟨w.heap.size, 1, none⟩ (.int .i64 S.max)).setCell ⟨w.heap.size, 2, none⟩ (.slice a6 n6 c6)).cell? ⟨w.heap.size, 2, none⟩ = some (.slice a6 n6 c6) :=
    World.cell?_setCell_same _ _ _ ((cell_set_off _ (by decide)).trans ((cell_set_off _ (by decide)).trans k2))
  refine bodyPost_ret (v := .agg #[.slice a5 n5 c5, .int .i64 S.max, .slice a6 n6 c6]) ?_ rfl ⟨a5, n5, c5, a6, n6, c6, rfl, ?_, ?_, ?_⟩
  · simp [results, Try.results15, go_sem, kk, kk1, kk2]
  · refine hrow1.keep (fun b hb hlt => ?_) (fun b hb hlt => ⟨?_, ?_⟩)
    · have hne2 : b ≠ w.heap.size := by have h1 : W0.heap.size ≤ b := hb.1; omega
      rw [Below.heap_setCell _ _ _ _ hne2, Below.heap_setCell _ _ _ _ hne2, Below.heap_setCell _ _ _ _ hne2]
    · have h1 : W0.heap.size ≤ b := hb.1
      omega
    · simp; omega
  · refine hrow2.keep (fun b hb hlt => ?_) (fun b hb hlt => ⟨?_, ?_⟩)
    · have hne2 : b ≠ w.heap.size := by have h1 : W0.heap.size ≤ b := hb.1; omega
      rw [Below.heap_setCell _ _ _ _ hne2, Below.heap_setCell _ _ _ _ hne2, Below.heap_setCell _ _ _ _ hne2]
    · have h1 : W0.heap.size ≤ b := hb.1
      omega
    · simp; omega
  · have h3 : Below w.heap.size W0 W1 := ⟨hbl.os, hbl.tape, hbl.output, hbl.size, fun k hk => hbl.block k (Nat.lt_trans hk hl0)⟩
    exact (((hb0.trans h3).setCell (by simp) _).setCell (by simp) _).setCell (by simp) _
end Go.Proofs.Ytgihclflndlomaa
