/- IndexFunc and ContainsFunc at ints with Open's own function. -/
import Derived.Test.YtgihclflndlomaaQ
namespace Go.Proofs.Ytgihclflndlomaa
open Go.RowKit

theorem neg_calls (k : Int) (w : World) : Calls Try.prog 30 #[.int .i64 k] w fun e w' => e = .returned (.bool (decide (k < -1))) ∧ w' = w := by
  go_enter Try.func30, Try.ntmps30
  go_wp2
  go_ret
  exact ⟨rfl, rfl⟩

theorem int_at (l : List Int) (k : Nat) : ∃ y : Int, ∀ z, l[k]? = some z → z = y := by
  cases h : l[k]? with
  | none => exact ⟨0, fun z hz => by cases hz⟩
  | some z => exact ⟨z, fun z' hz => by injection hz with e; exact e.symm⟩

set_option maxHeartbeats 1000000 in
theorem indexFunc_some (b off c : Nat) (l : List Int) (w : World) (hbig : l.length ≤ 9223372036854775807) (hc : ∀ j z, l[j]? = some z → w.cell? ⟨b, off + j, none⟩ = some (.int .i64 z)) :
    Calls Try.prog 57 #[.slice (some ⟨b, off, none⟩) l.length c, .func (.func 30) #[] #[]] w fun e w' => ∃ i : Int, e = .returned (.int .i64 i) ∧ (0 ≤ i ↔ ∃ y ∈ l, y < -1) ∧ w' = w := by
  generalize hn : l.length = n at hbig ⊢
  have Hc := Lib.hid hc
  have Hn := Lib.hid hn
  clear hc hn
  go_enter Try.func57, Try.ntmps57
  go_wp2
  go_loop [5, 8] (fun _ i => ∃ k : Nat, k ≤ n ∧ i = .int .i64 k ∧ ∀ j z, j < k → l[j]? = some z → -1 ≤ z) (fun _ i => match i with | .int _ m => n - m.toNat | _ => 0)
  case atStart => exact ⟨0, Nat.zero_le _, rfl, fun j z hj => absurd hj (Nat.not_lt_zero _)⟩
  case round =>
    obtain ⟨k, hk, rfl, hne⟩ := hrel
    obtain ⟨y, hy⟩ := int_at l k
    have hcell : k < n → w.cell? ⟨b, off + k, none⟩ = some (.int .i64 y) := fun h => by
      have h1 := Hn.out
      rw [Hc.out k l[k] (List.getElem?_eq_getElem (by omega)), hy _ (List.getElem?_eq_getElem (by omega))]
    have Hy := Lib.hid hy
    have Hne := Lib.hid hne
    clear hy hne
    go_wp2_with (go_at_call 30; refine (neg_calls y w).mono ?_; rintro e w' ⟨rfl, rfl⟩)
    · have hlt : k < n := by assumption
      have heq : y < -1 := by assumption
      have h1 := Hn.out
      go_ret
      refine ⟨_, rfl, ?_, rfl⟩
      exact ⟨fun _ => ⟨l[k], List.getElem_mem _, by rw [Hy.out _ (List.getElem?_eq_getElem (by omega))]; exact heq⟩, fun _ => Int.natCast_nonneg _⟩
    · have hlt : k < n := by assumption
      have hneq : -1 ≤ y := by assumption
      refine ⟨⟨k + 1, by omega, by rw [show ((k : Int) + 1) = ((k + 1 : Nat) : Int) by omega], fun j z hj hz => ?_⟩, by show n - ((k : Int) + 1).toNat < n - (k : Int).toNat; omega⟩
      by_cases e : j = k
      · subst e
        rw [Hy.out z hz]; exact hneq
      · exact Hne.out j z (by omega) hz
    · have hge : ¬ k < n := by assumption
      have : k = n := by omega
      subst this
      go_ret
      refine ⟨-1, rfl, ?_, rfl⟩
      refine ⟨fun h => absurd h (by decide), fun ⟨y, hy, hx⟩ => ?_⟩
      obtain ⟨j, hj, rfl⟩ := List.mem_iff_getElem.1 hy
      have := Hne.out j _ (by have := Hn.out; omega) (List.getElem?_eq_getElem hj)
      omega

set_option maxHeartbeats 1000000 in
theorem indexFunc_none (a : Option Addr) (c : Nat) (w : World) :
    Calls Try.prog 57 #[.slice a 0 c, .func (.func 30) #[] #[]] w fun e w' => e = .returned (.int .i64 (-1)) ∧ w' = w := by
  go_enter Try.func57, Try.ntmps57
  go_wp2
  go_loop [5, 8] (fun _ i => i = .int .i64 0) (fun _ _ => 0)
  case atStart => rfl
  case round =>
    subst hrel
    go_wp2
    go_ret
    exact ⟨rfl, rfl⟩

theorem indexFunc_calls (w : World) (any : Nat → Prop) (a : Option Addr) (n c : Nat) (l : List Int) (hd : Rd w any intV (.slice a n c) l) :
    Calls Try.prog 57 #[.slice a n c, .func (.func 30) #[] #[]] w fun e w' => ∃ i : Int, e = .returned (.int .i64 i) ∧ (0 ≤ i ↔ ∃ y ∈ l, y < -1) ∧ w' = w := by
  obtain ⟨a', c', hv, h1, h2, h3, h4⟩ := hd
  cases hv
  by_cases hl : l = []
  · subst hl
    refine (indexFunc_none a c w).mono ?_
    rintro e w' ⟨rfl, rfl⟩
    exact ⟨-1, rfl, by simp, rfl⟩
  · obtain ⟨b, off, rfl, hb, hcell⟩ := h4 hl
    exact indexFunc_some b off c l w (by unfold maxLen at h2; omega) (fun j z hj => hcell j z hj)

theorem containsFunc_calls (w : World) (any : Nat → Prop) (a : Option Addr) (n c : Nat) (l : List Int) (hd : Rd w any intV (.slice a n c) l) :
    Calls Try.prog 29 #[.slice a n c, .func (.func 30) #[] #[]] w fun e w' => e = .returned (.bool (decide (∃ y ∈ l, y < -1))) ∧ w' = w := by
  have H := Lib.hid (indexFunc_calls w any a n c l hd)
  clear hd
  go_enter Try.func29, Try.ntmps29
  go_wp2_with (go_at_call 57; refine H.out.mono ?_; rintro e w' ⟨i, rfl, hi, rfl⟩; have Hi := Lib.hid hi; clear hi)
  go_ret
  refine ⟨?_, rfl⟩
  have := Hi.out
  simp only [← this]
  rfl
end Go.Proofs.Ytgihclflndlomaa
