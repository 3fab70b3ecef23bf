/- do on an open stream: Getc. -/
import Derived.Test.YtgihclflndlomaaAe
import Derived.Test.YtgihclflndlomaaAg
import Derived.Test.YtgihclflndlomaaK
import Derived.Test.YtgihclflndlomaaN
namespace Go.Proofs.Ytgihclflndlomaa
open Go.RowKit

/-- What do comes to. -/
def DoPost (w : World) (own : Nat → Prop) (bs : Nat) (r : Gt × St) (e : Ending) (w' : World) : Prop :=
  e = .returned (.agg #[.int .i64 r.1.n, strV r.1.b, .int .i64 r.1.e]) ∧ SAt' w w' own bs r.2

/-- The result of do is laid over its own block. -/
theorem do_shut {w w1 : World} {k n wh : Int} {ab : Option Addr} {nb cb : Nat} {own : Nat → Prop} {bs : Nat} {S : St} (h : SAt' (doW w k n wh ab nb cb) w1 own bs S) (hlt : ∀ i, own i → i < w.heap.size) (v0 v1 v2 : Value) :
    SAt' w (((w1.setCell ⟨w.heap.size + 1, 0, none⟩ v0).setCell ⟨w.heap.size + 1, 1, none⟩ v1).setCell ⟨w.heap.size + 1, 2, none⟩ v2) own bs S := by
  refine h.outer hlt (((Below.refl _ w).alloc (Nat.le_refl _) _).alloc (by simp) _) ?_
  have hne : ∀ (i : Nat), ¬ (w.heap.size ≤ i ∧ i < (doW w k n wh ab nb cb).heap.size ∨ w1.heap.size ≤ i) → i ≠ w.heap.size + 1 := fun i hi e => hi (.inl ⟨by omega, by simp [doW]; omega⟩)
  exact ⟨rfl, rfl, rfl, by simp, fun i hi hn => by
    rw [Below.heap_setCell _ _ _ _ (hne i hn), Below.heap_setCell _ _ _ _ (hne i hn), Below.heap_setCell _ _ _ _ (hne i hn)]⟩

theorem do_cells {w w1 : World} {k n wh : Int} {ab : Option Addr} {nb cb : Nat} {own : Nat → Prop} {bs : Nat} {S : St} (h : SAt' (doW w k n wh ab nb cb) w1 own bs S) (hlt : ∀ i, own i → i < w.heap.size) :
    w1.cell? ⟨w.heap.size + 1, 0, none⟩ = some (.int .i64 0) ∧ w1.cell? ⟨w.heap.size + 1, 1, none⟩ = some (.string ByteArray.empty) ∧ w1.cell? ⟨w.heap.size + 1, 2, none⟩ = some (.int .i64 0) ∧
    w1.frozen? ⟨w.heap.size + 1, 0, none⟩ = false ∧ w1.frozen? ⟨w.heap.size + 1, 1, none⟩ = false ∧ w1.frozen? ⟨w.heap.size + 1, 2, none⟩ = false := by
  obtain ⟨h1, -⟩ := h.mine (k := w.heap.size + 1) (by simp [doW]) (fun e => by have := hlt _ e; omega)
  refine ⟨(World.cell?_of_block (a := ⟨w.heap.size + 1, 0, none⟩) h1).trans ?_, (World.cell?_of_block (a := ⟨w.heap.size + 1, 1, none⟩) h1).trans ?_, (World.cell?_of_block (a := ⟨w.heap.size + 1, 2, none⟩) h1).trans ?_,
    (World.frozen?_of_block (a := ⟨w.heap.size + 1, 0, none⟩) h1).trans ?_, (World.frozen?_of_block (a := ⟨w.heap.size + 1, 1, none⟩) h1).trans ?_, (World.frozen?_of_block (a := ⟨w.heap.size + 1, 2, none⟩) h1).trans ?_⟩ <;> simp [doW, go_sem]

set_option maxRecDepth 100000 in
set_option maxHeartbeats 1000000 in
theorem do_0 {w : World} {own : Nat → Prop} {bs : Nat} {S : St} {m : Mem} (h : SAtM w own bs S m) (hok : S.Ok) (n wh : Int) (ab : Option Addr) (nb cb : Nat) (b : List UInt8) :
    Calls Try.prog 25 #[.pointer (some ⟨bs, 0, none⟩), .agg #[.int .i64 0, .int .i64 n, .int .i64 wh, .slice ab nb cb]] w (DoPost w own bs (S.act ⟨0, n, wh, b⟩)) := by
  have hlt := h.lt
  have hd : SAtM (doW w 0 n wh ab nb cb) own bs S m := (h.alloc _).alloc _
  have Hc := Lib.hid (getc_calls ⟨m, hd⟩ hok)
  clear h hok hd
  go_enter Try.func25, Try.ntmps25
  go_wp2_with fail
  refine Hc.out.mono ?_
  rintro e w1 ⟨rfl, hs⟩
  obtain ⟨k0, k1, k2, j0, j1, j2⟩ := do_cells hs hlt
  obtain ⟨g0, g1, g2⟩ := got_cells (v0 := .int .i64 (S.getc.1.toNat : Int)) (v1 := .string ⟨#[]⟩) (v2 := .int .i64 S.getc.2.1) k0 k1 k2
  have Hs := Lib.hid (do_shut hs hlt (.int .i64 (S.getc.1.toNat : Int)) (.string ⟨#[]⟩) (.int .i64 S.getc.2.1))
  clear hs hlt
  have hbv : byteV S.getc.1 = .int .u8 (S.getc.1.toNat : Int) := rfl
  have hw64 : wrap64 (S.getc.1.toNat : Int) = (S.getc.1.toNat : Int) := by have := S.getc.1.toNat_lt; unfold wrap64; omega
  go_wp2_with fail
  refine bodyPost_ret (v := .agg #[.int .i64 (S.getc.1.toNat : Int), .string ⟨#[]⟩, .int .i64 S.getc.2.1]) ?_ rfl ⟨rfl, Hs.out⟩
  simp [results, Try.results25, go_sem, g0, g1, g2]
end Go.Proofs.Ytgihclflndlomaa
