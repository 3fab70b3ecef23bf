/- Bytes as a string; abc. -/
import Derived.Test.YtgihclflndlomaaU
import Derived.Test.YtgihclflndlomaaZ
import Derived.Laws.BytesArg
import Derived.Lib.SlBytesConst
namespace Go.Proofs.Ytgihclflndlomaa
open Go.RowKit

/-- Bytes as a string. -/
def strV (l : List UInt8) : Value := .string ⟨l.toArray⟩

theorem conv_str {w : World} {any : Nat → Prop} {a : Option Addr} {n c : Nat} {l : List UInt8} (h : Rd w any byteV (.slice a n c) l) : (convert 22 9 (.slice a n c)).run Try.prog w = .ok (strV l) w := by
  obtain ⟨a', cap, hv, hl, hc, hn, hr⟩ := h
  cases hv
  by_cases hne : l = []
  · subst hne
    show (convert 22 9 (.slice a 0 c)).run Try.prog w = _
    rw [run_convert_bytes_string w 22 9 5 a 0 c Try.underlying22 Try.underlying5 Try.underlying9]
    cases a <;> simp [Conv.bytesToString, loadCells]
    all_goals rfl
  · obtain ⟨b, off, rfl, hb, hcell⟩ := hr hne
    rw [run_convert_bytes_arg w 22 5 Try.underlying22 Try.underlying5 b off l.length c (l.map fun x => (x.toNat : Int)) (by simp) (fun i hi => by
      rw [hcell i l[i] (List.getElem?_eq_getElem hi)]
      simp [byteV, List.getElem?_eq_getElem hi]) 9 Try.underlying9]
    simp [strV, strOfNums]
    conv => rhs; rw [← List.map_id l]
    exact List.map_congr_left (fun x _ => by simp)

/-- Three bytes that the call has laid. -/
theorem rd_three {w : World} (x y z : UInt8) (t : TypeId) (f : Nat × Nat) : Rd (w.alloc (.cells #[byteV x, byteV y, byteV z] t f)) (fun b => w.heap.size ≤ b) byteV (.slice (some ⟨w.heap.size, 0, none⟩) 3 3) [x, y, z] := by
  refine ⟨some ⟨w.heap.size, 0, none⟩, 3, rfl, Nat.le_refl _, by unfold maxLen; omega, fun h => (by cases h), fun _ => ⟨w.heap.size, 0, rfl, Nat.le_refl _, fun i u hu => ?_⟩⟩
  rw [cell_of_row _ w.heap.size _ #[byteV x, byteV y, byteV z] t f (alloc_at w _), Nat.zero_add]
  match i, hu with
  | 0, hu => cases hu; rfl
  | 1, hu => cases hu; rfl
  | 2, hu => cases hu; rfl
  | i + 3, hu => simp at hu

set_option maxRecDepth 100000 in
theorem abc_calls (w : World) (ap : Option Addr) (np cp : Nat) : Calls Try.prog 28 #[.slice ap np cp] w fun e w' => ∃ a, e = .returned (.agg #[.slice (some a) 3 3, .int .i64 8, .slice ap np cp]) ∧ Rd w' (fun b => w.heap.size ≤ b) byteV (.slice (some a) 3 3) [97, 98, 99] ∧ Below w.heap.size w w' := by
  have kc := Lib.run_convert_bytes_const (P := Try.prog) (w.alloc (.cells #[.slice none 0 0, .int .i64 0, .slice none 0 0] 25)) 22 5 #[.int .u8 97, .int .u8 98, .int .u8 99] 3 3 Try.underlying22 Try.underlying5
  have hrd := rd_three (w := w.alloc (.cells #[.slice (some ⟨w.heap.size + 1, 0, none⟩) 3 3, .int .i64 8, .slice ap np cp] 25)) 97 98 99 5 (3, 4)
  rw [World.size_alloc] at kc hrd
  have Hrd := Lib.hid hrd
  clear hrd
  go_enter Try.func28, Try.ntmps28
  go_wp2
  refine bodyPost_ret (v := .agg #[.slice (some ⟨w.heap.size + 1, 0, none⟩) 3 3, .int .i64 8, .slice ap np cp]) ?_ rfl ⟨_, rfl, ?_, ?_⟩
  · simp [results, Try.results28, go_sem]
  · exact Rd.keep Hrd.out (fun _ _ _ => rfl) (fun b hb _ => by omega)
  · exact ((Below.refl _ w).alloc (Nat.le_refl _) _).alloc (by simp) _
end Go.Proofs.Ytgihclflndlomaa
