/- slices.Index and Contains at bytes; IndexFunc and ContainsFunc at ints with Open's own function. -/
import Derived.Test.YtgihclflndlomaaE
import Derived.Lib.Slices
import Derived.Lib.Walk
namespace Go.Proofs.Ytgihclflndlomaa
open Go.RowKit

theorem byte_at (l : List UInt8) (k : Nat) : ∃ y : Int, ∀ z, l[k]? = some z → (z.toNat : Int) = y := by
  cases h : l[k]? with
  | none => exact ⟨0, fun z hz => by cases hz⟩
  | some z => exact ⟨z.toNat, fun z' hz => by injection hz with e; rw [e]⟩

set_option maxHeartbeats 1000000 in
theorem index_some (b off c : Nat) (l : List UInt8) (x : Int) (w : World) (hbig : l.length ≤ 9223372036854775807) (hc : ∀ j z, l[j]? = some z → w.cell? ⟨b, off + j, none⟩ = some (.int .u8 (z.toNat : Int))) :
    Calls Try.prog 60 #[.slice (some ⟨b, off, none⟩) l.length c, .int .u8 x] w fun e w' => ∃ i : Int, e = .returned (.int .i64 i) ∧ (0 ≤ i ↔ ∃ y ∈ l, x = (y.toNat : Int)) ∧ w' = w := by
  generalize hn : l.length = n at hbig ⊢
  have Hc := Lib.hid hc
  have Hn := Lib.hid hn
  clear hc hn
  go_enter Try.func60, Try.ntmps60
  go_wp2
  go_loop [5, 8] (fun _ i => ∃ k : Nat, k ≤ n ∧ i = .int .i64 k ∧ ∀ j z, j < k → l[j]? = some z → (z.toNat : Int) ≠ x) (fun _ i => match i with | .int _ m => n - m.toNat | _ => 0)
  case atStart => exact ⟨0, Nat.zero_le _, rfl, fun j z hj => absurd hj (Nat.not_lt_zero _)⟩
  case round =>
    obtain ⟨k, hk, rfl, hne⟩ := hrel
    obtain ⟨y, hy⟩ := byte_at l k
    have hcell : k < n → w.cell? ⟨b, off + k, none⟩ = some (.int .u8 y) := fun h => by
      have h1 := Hn.out
      rw [Hc.out k l[k] (List.getElem?_eq_getElem (by omega)), hy _ (List.getElem?_eq_getElem (by omega))]
    have Hy := Lib.hid hy
    have Hne := Lib.hid hne
    clear hy hne
    go_wp2
    · have hlt : k < n := by assumption
      have heq : (x == y) = true := by assumption
      have h1 := Hn.out
      go_ret
      refine ⟨_, rfl, ?_, rfl⟩
      exact ⟨fun _ => ⟨l[k], List.getElem_mem _, (beq_iff_eq.1 heq).trans (Hy.out _ (List.getElem?_eq_getElem (by omega))).symm⟩, fun _ => Int.natCast_nonneg _⟩
    · have hlt : k < n := by assumption
      have hneq : (x == y) = false := by assumption
      refine ⟨⟨k + 1, by omega, by rw [show ((k : Int) + 1) = ((k + 1 : Nat) : Int) by omega], fun j z hj hz => ?_⟩, by show n - ((k : Int) + 1).toNat < n - (k : Int).toNat; omega⟩
      by_cases e : j = k
      · subst e
        intro he
        rw [← Hy.out z hz, he] at hneq
        simp at hneq
      · exact Hne.out j z (by omega) hz
    · have hge : ¬ k < n := by assumption
      have : k = n := by omega
      subst this
      go_ret
      refine ⟨-1, rfl, ?_, rfl⟩
      refine ⟨fun h => absurd h (by decide), fun ⟨y, hy, hx⟩ => ?_⟩
      obtain ⟨j, hj, rfl⟩ := List.mem_iff_getElem.1 hy
      exact absurd hx.symm (Hne.out j _ (by have := Hn.out; omega) (List.getElem?_eq_getElem hj))

set_option maxHeartbeats 1000000 in
theorem index_none (a : Option Addr) (c : Nat) (x : Int) (w : World) :
    Calls Try.prog 60 #[.slice a 0 c, .int .u8 x] w fun e w' => e = .returned (.int .i64 (-1)) ∧ w' = w := by
  go_enter Try.func60, Try.ntmps60
  go_wp2
  go_loop [5, 8] (fun _ i => i = .int .i64 0) (fun _ _ => 0)
  case atStart => rfl
  case round =>
    subst hrel
    go_wp2
    go_ret
    exact ⟨rfl, rfl⟩

theorem index_calls (w : World) (any : Nat → Prop) (a : Option Addr) (n c : Nat) (l : List UInt8) (x : UInt8) (hd : Rd w any byteV (.slice a n c) l) :
    Calls Try.prog 60 #[.slice a n c, .int .u8 (x.toNat : Int)] w fun e w' => ∃ i : Int, e = .returned (.int .i64 i) ∧ (0 ≤ i ↔ x ∈ l) ∧ w' = w := by
  obtain ⟨a', c', hv, h1, h2, h3, h4⟩ := hd
  cases hv
  by_cases hl : l = []
  · subst hl
    refine (index_none a c _ w).mono ?_
    rintro e w' ⟨rfl, rfl⟩
    exact ⟨-1, rfl, by simp, rfl⟩
  · obtain ⟨b, off, rfl, hb, hcell⟩ := h4 hl
    refine (index_some b off c l (x.toNat : Int) w (by unfold maxLen at h2; omega) (fun j z hj => hcell j z hj)).mono ?_
    · rintro e w' ⟨i, rfl, hi, rfl⟩
      refine ⟨i, rfl, hi.trans ⟨fun ⟨y, hy, e⟩ => ?_, fun h => ⟨x, h, rfl⟩⟩, rfl⟩
      have : x = y := UInt8.toNat_inj.1 (by omega)
      rw [this]; exact hy

theorem contains_calls (w : World) (any : Nat → Prop) (a : Option Addr) (n c : Nat) (l : List UInt8) (x : UInt8) (hd : Rd w any byteV (.slice a n c) l) :
    Calls Try.prog 39 #[.slice a n c, .int .u8 (x.toNat : Int)] w fun e w' => e = .returned (.bool (decide (x ∈ l))) ∧ w' = w := by
  have H := Lib.hid (index_calls w any a n c l x hd)
  clear hd
  go_enter Try.func39, Try.ntmps39
  go_wp2_with (go_at_call 60; refine H.out.mono ?_; rintro e w' ⟨i, rfl, hi, rfl⟩; have Hi := Lib.hid hi; clear hi)
  go_ret
  refine ⟨?_, rfl⟩
  have := Hi.out
  simp only [← this]
  rfl
end Go.Proofs.Ytgihclflndlomaa
