/- slices.Clone at bytes and at ints. -/
import Derived.Test.YtgihclflndlomaaL
namespace Go.Proofs.Ytgihclflndlomaa
open Go.RowKit

/-- What Clone hands back: a row of its own with the same elements; nothing that was there has turned. -/
def Cloned {α : Type} (e : TypeId) (enc : α → Value) (w : World) (l : List α) (r : Ending) (w' : World) : Prop :=
  ∃ a n c, r = .returned (.slice a n c) ∧ Row e enc w' (fun b => w.heap.size ≤ b ∧ b < w'.heap.size) (.slice a n c) l ∧ Below w.heap.size w w'

/-- An append onto a new empty row, as Clone makes it. -/
theorem app_new {α : Type} {t e : TypeId} {enc : α → Value} {bytes : Nat} {z : Value} (he : Elem t e enc bytes z) (w W : World) (hb : Below w.heap.size w W) (any : Nat → Prop) (x0 : Option Addr) (vx : Value) (l : List α) (hx : Rd W any enc vx l) (ty : TypeId)
    (hlen : l.length * bytes ≤ 140737488355328) (hb8 : 0 < bytes) :
    ∃ a n c w', (Builtin.append_ #[t, t] ty #[.slice x0 0 0, vx]).run Try.prog W = .ok (.slice a n c) w' ∧ Cloned e enc w l (.returned (.slice a n c)) w' := by
  obtain ⟨a, n, c, w', hrun, hrow, htw, _⟩ := run_app he W (fun _ => False) any (.slice x0 0 0) vx [] l (.inl ⟨rfl, x0, rfl⟩) hx ty (by simpa using hlen) hb8
  refine ⟨a, n, c, w', hrun, a, n, c, rfl, ?_, ?_⟩
  · rw [List.nil_append] at hrow
    exact hrow.keep (fun _ _ _ => rfl) (fun b hb2 hlt => ⟨hb2.elim False.elim (fun e => by rw [e]; exact hb.size), hlt⟩)
  · exact hb.trans ⟨htw.os, htw.tape, htw.output, htw.size, fun k hk => htw.keep k (Nat.lt_of_lt_of_le hk hb.size) (fun e => e.1)⟩

theorem clone_bytes_nil (w : World) : Calls Try.prog 38 #[.slice none 0 0] w (Cloned 5 byteV w []) := by
  have he := fun w => Lib.run_eql_slice_nil (P := Try.prog) w 22 5 none 0 0 0 0 Try.underlying22
  go_enter Try.func38, Try.ntmps38
  go_wp2
  go_ret
  exact ⟨none, 0, 0, rfl, .inl ⟨rfl, none, rfl⟩, Below.refl _ _⟩

theorem clone_bytes_some (w : World) (any : Nat → Prop) (x : Addr) (n c : Nat) (l : List UInt8) (h : Rd w any byteV (.slice (some x) n c) l) (hl : l.length * 1 ≤ 140737488355328) : Calls Try.prog 38 #[.slice (some x) n c] w (Cloned 5 byteV w l) := by
  have he := fun w => Lib.run_eql_slice_nil (P := Try.prog) w 22 5 (some x) n c 0 0 Try.underlying22
  have h' := Lib.hid h
  have hl' := Lib.hid hl
  clear h hl
  go_enter Try.func38, Try.ntmps38
  obtain ⟨a, n', c', w', hrun, hpost⟩ := app_new bytesElem w (w.alloc (.cells #[] 5)) ((Below.refl _ _).alloc (Nat.le_refl _) _) any (some ⟨w.heap.size, 0, none⟩) (.slice (some x) n c) l (h'.out.keep (fun b _ hb => Below.heap_alloc _ _ _ hb) (fun _ hb _ => hb)) 22 hl'.out (by decide)
  have Hrun := Lib.hid hrun
  have Hpost := Lib.hid hpost
  clear hrun hpost
  go_wp2_with (at_builtin; refine Lib.wpList_append_run _ rfl (.tmp 5) (.tmp 6) 22 22 rfl _ _ rfl rfl (.slice a n' c') w' (Eq.trans ?_ Hrun.out) ?_; focus kernel_rfl)
  go_ret
  exact Hpost.out

/-- Clone of any slice. -/
theorem clone_bytes (w : World) (any : Nat → Prop) (v : Value) (l : List UInt8) (h : Rd w any byteV v l) (hl : l.length * 1 ≤ 140737488355328) : Calls Try.prog 38 #[v] w (Cloned 5 byteV w l) := by
  have h0 := h
  obtain ⟨a, c, rfl, hlc, hm, hn, hr⟩ := h
  cases a with
  | none =>
    obtain rfl := hn rfl
    obtain rfl : l = [] := List.length_eq_zero_iff.1 (by omega)
    exact clone_bytes_nil w
  | some x => exact clone_bytes_some w any x _ c l h0 hl

theorem clone_ints_nil (w : World) : Calls Try.prog 58 #[.slice none 0 0] w (Cloned 3 intV w []) := by
  have he := fun w => Lib.run_eql_slice_nil (P := Try.prog) w 23 3 none 0 0 0 0 Try.underlying23
  go_enter Try.func58, Try.ntmps58
  go_wp2
  go_ret
  exact ⟨none, 0, 0, rfl, .inl ⟨rfl, none, rfl⟩, Below.refl _ _⟩

theorem clone_ints_some (w : World) (any : Nat → Prop) (x : Addr) (n c : Nat) (l : List Int) (h : Rd w any intV (.slice (some x) n c) l) (hl : l.length * 8 ≤ 140737488355328) : Calls Try.prog 58 #[.slice (some x) n c] w (Cloned 3 intV w l) := by
  have he := fun w => Lib.run_eql_slice_nil (P := Try.prog) w 23 3 (some x) n c 0 0 Try.underlying23
  have h' := Lib.hid h
  have hl' := Lib.hid hl
  clear h hl
  go_enter Try.func58, Try.ntmps58
  obtain ⟨a, n', c', w', hrun, hpost⟩ := app_new intsElem w (w.alloc (.cells #[] 3)) ((Below.refl _ _).alloc (Nat.le_refl _) _) any (some ⟨w.heap.size, 0, none⟩) (.slice (some x) n c) l (h'.out.keep (fun b _ hb => Below.heap_alloc _ _ _ hb) (fun _ hb _ => hb)) 23 hl'.out (by decide)
  have Hrun := Lib.hid hrun
  have Hpost := Lib.hid hpost
  clear hrun hpost
  go_wp2_with (at_builtin; refine Lib.wpList_append_run _ rfl (.tmp 5) (.tmp 6) 23 23 rfl _ _ rfl rfl (.slice a n' c') w' (Eq.trans ?_ Hrun.out) ?_; focus kernel_rfl)
  go_ret
  exact Hpost.out

/-- Clone of any slice. -/
theorem clone_ints (w : World) (any : Nat → Prop) (v : Value) (l : List Int) (h : Rd w any intV v l) (hl : l.length * 8 ≤ 140737488355328) : Calls Try.prog 58 #[v] w (Cloned 3 intV w l) := by
  have h0 := h
  obtain ⟨a, c, rfl, hlc, hm, hn, hr⟩ := h
  cases a with
  | none =>
    obtain rfl := hn rfl
    obtain rfl : l = [] := List.length_eq_zero_iff.1 (by omega)
    exact clone_ints_nil w
  | some x => exact clone_ints_some w any x _ c l h0 hl

end Go.Proofs.Ytgihclflndlomaa
