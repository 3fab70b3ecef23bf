/- Arguments as they are read: slices of bytes and of ints, in plain Lean. -/
import Derived.Test.YtgihclflndlomaaM
import Derived.ProofKit
import Derived.Lib.SmallJoins
namespace Go.Proofs.Ytgihclflndlomaa
open Go.ChangeShapes Go.WideShapes Go.ChangeAt Go.RowKit Go.Joins

theorem plain_addr {w : World} {a : Addr} {v : Value} (h : w.cell? a = some v) : a = ⟨a.block, a.off, none⟩ := by
  obtain ⟨b, o, s⟩ := a
  cases s with
  | none => rfl
  | some x =>
    unfold World.cell? at h
    simp only at h
    split at h
    · simp at h
    · cases h

theorem add_off (b o i : Nat) : Addr.add ⟨b, o, none⟩ i = ⟨b, o + i, none⟩ := by
  unfold Addr.add
  split
  · rename_i h; subst h; rfl
  · rfl

section
variable {H : Type} {enc : TypeId × Value → H} {P : Program} {w : World} {held : Bool}

/-- A slice of numbers among the arguments. -/
theorem arg_ints {α : Type} (val : α → Value) (of : Int → α) {t e : TypeId} {k : IntKind} {fuel : Nat} {v : Value} {x : DataW H × List MemPlace} (ht : P.underlying t = some (.slice e)) (he : P.underlying e = some (.int k)) (hc : P.cellsOf e = 1)
    (hval : ∀ n, (Lit.int k n).wf = true → val (of n) = .int k n) (h : DataW.trod enc P w 0 (fun _ => true) held fuel t [v] = some x) :
    ∃ l : List α, Rd w (fun b => b < w.heap.size) val v l ∧ ∃ a n c, v = .slice a n c := by
  rcases open_ints ht he hc h with ⟨hcs, -⟩ | ⟨a, len, cap, zs, hcs, -, hl, hm, hz, -, hcell, hw⟩
  · simp only [List.cons.injEq, and_true] at hcs
    subst hcs
    exact ⟨[], Rd.nil _ _ _, _, _, _, rfl⟩
  · simp only [List.cons.injEq, and_true] at hcs
    subst hcs
    simp only [if_true] at hz
    refine ⟨(zs.take len).map of, ?_, _, _, _, rfl⟩
    have hlen : ((zs.take len).map of).length = len := by rw [List.length_map, List.length_take]; omega
    refine ⟨some a, cap, by rw [hlen], by omega, hm, fun e => (by cases e), fun hne => ?_⟩
    have h0 : 0 < len := by
      cases len with
      | zero => exact absurd (by simp) hne
      | succ n => omega
    have c0 := hcell 0 (by omega)
    have ha := plain_addr (a := a) (by simpa [Addr.add] using c0)
    obtain ⟨b, o, s⟩ := a
    simp only at ha
    cases ha
    refine ⟨b, o, rfl, World.block_lt_of_cell? _ _ c0, fun i y hy => ?_⟩
    have hi : i < len := by have := (List.getElem?_eq_some_iff.1 hy).1; omega
    rw [← add_off, hcell i (by omega)]
    rw [List.getElem?_map, List.getElem?_take, if_pos hi, List.getElem?_eq_getElem (by omega)] at hy
    simp only [Option.map_some, Option.some.injEq] at hy
    subst hy
    rw [hval _ (hw _ (List.getElem_mem _))]
    simp [List.getD, List.getElem?_eq_getElem (show i < zs.length by omega)]

end

theorem byteV_of (n : Int) (h : (Lit.int .u8 n).wf = true) : byteV (UInt8.ofNat n.toNat) = .int .u8 n := by
  simp [Lit.wf, IntKind.min, IntKind.max, IntKind.signed, IntKind.bits] at h
  unfold byteV
  rw [UInt8.toNat_ofNat']
  congr 1
  omega

end Go.Proofs.Ytgihclflndlomaa
