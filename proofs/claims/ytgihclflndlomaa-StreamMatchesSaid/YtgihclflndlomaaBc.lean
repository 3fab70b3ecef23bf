/- The world of a law under way. -/
import Derived.Test.YtgihclflndlomaaAc
import Derived.Test.YtgihclflndlomaaBa
namespace Go.Proofs.Ytgihclflndlomaa
open Go.RowKit

/-- The law's own device lies in the first new block; a stream lies behind it. -/
structure Lw (w W : World) (dv : Array Value) (own : Nat → Prop) (bs : Nat) (S : St) (m : Mem) : Prop where
  l : SAtM W own bs S m
  b1 : ∀ k, own k → w.heap.size < k
  be : Below w.heap.size w W
  bx : W.heap[w.heap.size]? = some (.cells dv 25 (0, 0))

/-- What the law has laid besides. -/
abbrev Mine (w : World) (own : Nat → Prop) (k : Nat) : Prop := w.heap.size < k ∧ ¬ own k

section
variable {w W W' : World} {dv : Array Value} {own own' : Nat → Prop} {bs : Nat} {S S' : St} {m m' : Mem}

theorem Lw.lt (h : Lw w W dv own bs S m) : w.heap.size < W.heap.size := (Array.getElem?_eq_some_iff.1 h.bx).1
theorem Lw.box (h : Lw w W dv own bs S m) (j : Nat) : W.cell? ⟨w.heap.size, j, none⟩ = dv[j]? := cell_of_row W w.heap.size j _ _ _ h.bx
theorem Lw.step (h : Lw w W dv own bs S m) (h' : SAtM W' own' bs S' m') (f : Fr W W' own own') : Lw w W' dv own' bs S' m' where
  l := h'
  b1 := fun k hk => (f.new k hk).elim (h.b1 k) (fun e => Nat.lt_of_lt_of_le h.lt e)
  be := h.be.trans (f.below h.be.size (fun k hk => Nat.le_of_lt (h.b1 k hk)))
  bx := (f.keep _ h.lt (fun e => Nat.lt_irrefl _ (h.b1 _ e))).trans h.bx
theorem Lw.below (h : Lw w W dv own bs S m) (hb : Below W.heap.size W W') : Lw w W' dv own bs S m where
  l := h.l.below hb
  b1 := h.b1
  be := h.be.trans (hb.mono h.be.size)
  bx := (hb.block _ h.lt).trans h.bx
theorem Lw.drewN (h : Lw w W dv own bs S m) (n : Nat) : Lw w (W.drewN n) dv own bs S m := ⟨h.l.drewN n, h.b1, ⟨h.be.os, h.be.tape, h.be.output, h.be.size, h.be.block⟩, h.bx⟩
theorem Lw.tw {p : Nat → Prop} (h : Lw w W dv own bs S m) (ht : Tw W W' p) (hp : ∀ k, p k → Mine w own k) : Lw w W' dv own bs S m where
  l := h.l.keep ht.size (fun b hb => ht.keep b (h.l.lt b hb) (fun e => (hp b e).2 hb))
  b1 := h.b1
  be := h.be.trans ⟨ht.os, ht.tape, ht.output, ht.size, fun k hk => ht.keep k (Nat.lt_of_lt_of_le hk h.be.size) (fun e => by have := (hp k e).1; omega)⟩
  bx := (ht.keep _ h.lt (fun e => Nat.lt_irrefl _ (hp _ e).1)).trans h.bx

theorem Rd.law {α : Type} {enc : α → Value} {v : Value} {l : List α} (h : Rd w (fun b => b < w.heap.size) enc v l) (hb : Below w.heap.size w W) : Rd W (fun b => b < w.heap.size) enc v l :=
  h.keep (fun b _ hk => hb.block b hk) (fun _ h _ => h)
theorem Row.step {α : Type} {e : TypeId} {enc : α → Value} {v : Value} {l : List α} (h : Row e enc W (Mine w own) v l) (f : Fr W W' own own') : Row e enc W' (Mine w own') v l :=
  h.keep (fun b hb hk => f.keep b hk hb.2) (fun b hb hk => ⟨hb.1, fun e => (f.new b e).elim hb.2 (fun e => by omega)⟩)
theorem Row.below {α : Type} {e : TypeId} {enc : α → Value} {v : Value} {l : List α} {p : Nat → Prop} (h : Row e enc W p v l) (hb : Below W.heap.size W W') : Row e enc W' p v l :=
  h.keep (fun b _ hk => hb.block b hk) (fun _ h _ => h)
theorem Row.mine {α : Type} {e : TypeId} {enc : α → Value} {v : Value} {l : List α} {n : Nat} (h : Row e enc W' (fun b => n ≤ b ∧ ¬ own b) v l) (hn : w.heap.size < n) : Row e enc W' (Mine w own) v l :=
  h.keep (fun _ _ _ => rfl) (fun b hb _ => ⟨by omega, hb.2⟩)
end

theorem rd_len {α : Type} {w : World} {any : Nat → Prop} {enc : α → Value} {a : Option Addr} {n c : Nat} {l : List α} (h : Rd w any enc (.slice a n c) l) : l.length = n ∧ n ≤ c ∧ c ≤ maxLen := by
  obtain ⟨a', c', hv, h1, h2, -⟩ := h
  cases hv
  exact ⟨rfl, h1, h2⟩

theorem size5 : (Try.prog.info? 5).map (·.size) = some 1 := by kernel_rfl
theorem run_size5 (w : World) : (sizeOf 5).run Try.prog w = .ok 1 w := by kernel_rfl
theorem elem22 : Try.prog.elem 22 = 5 := by kernel_rfl

theorem add_zero' (a : Option Addr) : a.map (·.add 0) = a := by
  cases a with
  | none => rfl
  | some a => simp [Addr.add]

/-- A slice of bytes from a place on. -/
theorem rd_from {w : World} {own : Nat → Prop} {a : Option Addr} {n c : Nat} {l : List UInt8} (h : Rd w own byteV (.slice a n c) l) (p : Nat) (hp : p ≤ n) :
    ∃ a', (∀ W, (Instr.sliceAt 22 (.slice a n c) (some (.int .i64 (p : Int))) none none).run Try.prog W = .ok (.slice a' (n - p) (c - p)) W) ∧ Rd w own byteV (.slice a' (n - p) (c - p)) (l.drop p) := by
  have hlen := rd_len h
  have hu : Try.prog.underlying 22 = some (.slice (Try.prog.elem 22)) := by rw [elem22]; exact Try.underlying22
  refine ⟨if c = p then a else a.map (·.add p), fun W => ?_, ?_⟩
  · rw [run_sliceAt_slice W 22 _ _ _ _ hu, run_slice_l W 22 a n c hu .i64 (p : Int) (by omega) (by omega), elem22, run_size5]
    simp [sliced, Result.andThen]
  · obtain ⟨a', c', hv, h1, h2, h3, h4⟩ := h
    cases hv
    refine ⟨_, c - p, by rw [List.length_drop], by rw [List.length_drop]; omega, by omega, fun e => ?_, fun hne => ?_⟩
    · split at e
      · omega
      · cases a with
        | none => have := h3 rfl; omega
        | some a => cases e
    · have hlt : p < l.length := by
        by_cases e : p < l.length
        · exact e
        · exact absurd (List.drop_of_length_le (by omega)) hne
      obtain ⟨b, off, rfl, hb, hc⟩ := h4 (fun e => by rw [e] at hlt; simp at hlt)
      refine ⟨b, off + p, ?_, hb, fun i x hx => ?_⟩
      · rw [if_neg (by omega)]
        simp [addr_add]
      · rw [List.getElem?_drop] at hx
        rw [Nat.add_assoc]
        exact hc _ _ hx

/-- The first bytes of a slice. -/
theorem run_to (a : Option Addr) (n c p : Nat) (hp : p ≤ c) (W : World) : (Instr.sliceAt 22 (.slice a n c) none (some (.int .i64 (p : Int))) none).run Try.prog W = .ok (.slice a p c) W := by
  have hu : Try.prog.underlying 22 = some (.slice (Try.prog.elem 22)) := by rw [elem22]; exact Try.underlying22
  rw [run_sliceAt_slice W 22 _ _ _ _ hu, run_slice_h W 22 a n c hu .i64 (p : Int) (by omega) (by omega), elem22, run_size5]
  simp [sliced, Result.andThen, add_zero']

end Go.Proofs.Ytgihclflndlomaa
