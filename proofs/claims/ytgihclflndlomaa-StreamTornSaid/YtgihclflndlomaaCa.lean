/- Lists of texts and of bools among the arguments. -/
import Derived.Test.YtgihclflndlomaaBr
import Derived.Test.YtgihclflndlomaaBc
import Derived.Deep.Grids
namespace Go.Proofs.Ytgihclflndlomaa
open Go.ChangeShapes Go.WideShapes Go.ChangeAt Go.RowKit Go.Joins Go.Deep

/-- A list of texts among the arguments. -/
def Texts (w : World) (low : Nat) (a : Option Addr) (n : Nat) (l : List (List UInt8)) : Prop :=
  l.length = n ∧ (0 < n → ∃ b off, a = some ⟨b, off, none⟩ ∧ b < low ∧ ∀ i x, l[i]? = some x → ∃ ax nx cx, w.cell? ⟨b, off + i, none⟩ = some (.slice ax nx cx) ∧ Rd w (fun b => b < low) byteV (.slice ax nx cx) x)

theorem Texts.below {w W : World} {low : Nat} {a : Option Addr} {n : Nat} {l : List (List UInt8)} (h : Texts w low a n l) (hlow : low ≤ w.heap.size) (hb : Below w.heap.size w W) : Texts W low a n l := by
  refine ⟨h.1, fun hn => ?_⟩
  obtain ⟨b, off, ha, hlt, hc⟩ := h.2 hn
  refine ⟨b, off, ha, hlt, fun i x hx => ?_⟩
  obtain ⟨ax, nx, cx, h1, h2⟩ := hc i x hx
  exact ⟨ax, nx, cx, (hb.cell (p := ⟨b, off + i, none⟩) (Nat.lt_of_lt_of_le hlt hlow)).trans h1, h2.keep (fun k _ hk => hb.block k hk) (fun _ h _ => h)⟩

def boolV (b : Bool) : Value := .bool b

section
variable {H : Type} {enc : TypeId × Value → H} {W : World}

theorem Try.cells22' : Try.prog.cellsOf 22 = 1 := by kernel_rfl
theorem Try.cells4 : Try.prog.cellsOf 4 = 1 := by kernel_rfl

theorem arg_texts {r : Reach} {b0 : Nat} {v : Value} {d : DataW H} {p : List MemPlace} (hv : Value.okWide Try.prog W r b0 37 v) (h : DataW.Trod enc Try.prog W 0 (fun _ => true) true 37 v d p) :
    ∃ (l : List (List UInt8)) (a : Option Addr) (n c : Nat), v = .slice a n c ∧ n ≤ c ∧ c ≤ maxLen ∧ Texts W W.heap.size a n l := by
  obtain ⟨a, n, c, rfl⟩ := okWide_slice Try.underlying37 hv
  obtain ⟨fuel, hf⟩ := h
  rcases open_slice1 Try.underlying37 Try.cells22' (by simpa [Value.cells] using hf) with ⟨hcs, -⟩ | ⟨a', len, cap, m, k, V, D, Pl, hcs, -, hl, hm, hmm, -, hx⟩
  · simp only [List.cons.injEq, and_true] at hcs
    cases hcs
    exact ⟨[], none, 0, 0, rfl, Nat.le_refl _, Nat.zero_le _, rfl, fun h => absurd h (by decide)⟩
  · simp only [List.cons.injEq, and_true] at hcs
    cases hcs
    simp only [if_true] at hmm
    have hmm' := hmm.symm
    subst hmm'
    have each : ∀ i, i < c → ∃ x : List UInt8, ∃ ab nb cb, W.cell? (a'.add i) = some (.slice ab nb cb) ∧ Rd W (fun b => b < W.heap.size) byteV (.slice ab nb cb) x := by
      intro i hi
      obtain ⟨h1, h2⟩ := hx i hi
      obtain ⟨l, ab, nb, cb, e, hl⟩ := trod_bytes h2
      exact ⟨l, ab, nb, cb, by rw [h1, e], hl⟩
    obtain ⟨f, hf⟩ := choose_lt each
    refine ⟨(List.range n).map f, some a', n, c, rfl, hl, hm, by simp, fun hn => ?_⟩
    obtain ⟨ab, nb, cb, k0, -⟩ := hf 0 (by omega)
    have ha := plain_addr (a := a') (by simpa [Addr.add] using k0)
    have hlt : a'.block < W.heap.size := World.block_lt_of_cell? _ _ (show W.cell? a' = some (.slice ab nb cb) by simpa [Addr.add] using k0)
    obtain ⟨b, o, s⟩ := a'
    simp only at ha hlt
    cases ha
    refine ⟨b, o, rfl, hlt, fun i x hx => ?_⟩
    have hi : i < n := by have := (List.getElem?_eq_some_iff.1 hx).1; simpa using this
    rw [List.getElem?_map, List.getElem?_range hi] at hx
    simp only [Option.map_some, Option.some.injEq] at hx
    subst hx
    obtain ⟨ab, nb, cb, k0, k4⟩ := hf i (by omega)
    simp only [add_off] at k0
    exact ⟨ab, nb, cb, k0, k4⟩

theorem arg_bools {r : Reach} {b0 : Nat} {v : Value} {d : DataW H} {p : List MemPlace} (hv : Value.okWide Try.prog W r b0 38 v) (h : DataW.Trod enc Try.prog W 0 (fun _ => true) true 38 v d p) :
    ∃ (l : List Bool) (a : Option Addr) (n c : Nat), v = .slice a n c ∧ Rd W (fun b => b < W.heap.size) boolV (.slice a n c) l := by
  obtain ⟨a, n, c, rfl⟩ := okWide_slice Try.underlying38 hv
  obtain ⟨fuel, hf⟩ := h
  rcases open_bools Try.underlying38 Try.underlying4 Try.cells4 (by simpa [Value.cells] using hf) with ⟨hcs, -⟩ | ⟨a', len, cap, B, hcs, -, hl, hm, -, hx⟩
  · simp only [List.cons.injEq, and_true] at hcs
    cases hcs
    exact ⟨[], none, 0, 0, rfl, Rd.nil _ _ _⟩
  · simp only [List.cons.injEq, and_true] at hcs
    cases hcs
    refine ⟨(List.range n).map B, some a', n, c, rfl, some a', c, by simp, by simpa using hl, hm, fun e => (by cases e), fun hne => ?_⟩
    have h0 : 0 < n := by
      cases n with
      | zero => exact absurd (by simp) hne
      | succ n => omega
    have c0 := hx 0 (by omega)
    have ha := plain_addr (a := a') (by simpa [Addr.add] using c0)
    obtain ⟨b, o, s⟩ := a'
    simp only at ha
    cases ha
    refine ⟨b, o, rfl, World.block_lt_of_cell? _ _ c0, fun i y hy => ?_⟩
    have hi : i < n := by have := (List.getElem?_eq_some_iff.1 hy).1; simpa using this
    rw [List.getElem?_map, List.getElem?_range hi] at hy
    simp only [Option.map_some, Option.some.injEq] at hy
    subst hy
    rw [← add_off]
    exact hx i (by omega)
end
end Go.Proofs.Ytgihclflndlomaa
