/- The closure 'may' of Open: it uses up one element of the plan, and tells how many bytes can be moved. -/
import Derived.Test.YtgihclflndlomaaM
import Derived.RegionTactic
import Derived.BigRegion
import Derived.Lib.Hide
namespace Go.Proofs.Ytgihclflndlomaa
open Go.RowKit

theorem setCell_self {w : World} {a : Addr} {v : Value} (h : w.cell? a = some v) : w.setCell a v = w := by
  have this : (w.setCell a v).heap = w.heap := by
    unfold World.setCell
    apply Array.ext
    · simp
    · intro i h1 h2
      rw [Array.getElem_modify]
      split
      · rename_i e
        subst e
        unfold World.cell? at h
        rw [Array.getElem?_eq_getElem h2] at h
        split
        · rename_i c el fr hc
          rw [hc] at h
          simp only at h
          split at h
          · cases h
          · rename_i hs
            rw [hc, if_neg hs]
            congr 1
            apply Array.ext
            · simp
            · intro j k1 k2
              rw [Array.getElem_setIfInBounds k2]
              split
              · rename_i e2; subst e2
                rw [Array.getElem?_eq_getElem k2] at h
                exact (Option.some.inj h).symm
              · rfl
        · rfl
      · rfl
  have e : w.setCell a v = { w with heap := (w.setCell a v).heap } := rfl
  rw [e, this]

theorem may_empty (n : Int) (bx bd : Nat) (ap : Option Addr) (cp : Nat) (w : World)
    (c0 : w.cell? ⟨bx, 0, none⟩ = some (.pointer (some ⟨bd, 0, none⟩))) (c2 : w.cell? ⟨bd, 2, none⟩ = some (.slice ap 0 cp)) :
    Calls Try.prog 32 #[.int .i64 n, .pointer (some ⟨bx, 0, none⟩)] w fun e w' => e = .returned (.int .i64 n) ∧ w = w' := by
  go_enter Try.func32, Try.ntmps32
  go_wp2
  go_ret
  exact ⟨rfl, rfl⟩

theorem ret_i64 {a b : Int} (h : a = b) : Ending.returned (.int .i64 a) = .returned (.int .i64 b) := by rw [h]

def mayK (k n : Int) : Int := if k < 0 then n else min n k
def tlOff (off cap : Nat) : Nat := if cap = 1 then off else off + 1

theorem may_some (n k : Int) (bx bd b off lp cp : Nat) (w : World) (hlp : 1 ≤ lp) (hcp : lp ≤ cp) (hm : cp ≤ 9223372036854775807)
    (c0 : w.cell? ⟨bx, 0, none⟩ = some (.pointer (some ⟨bd, 0, none⟩))) (c2 : w.cell? ⟨bd, 2, none⟩ = some (.slice (some ⟨b, off, none⟩) lp cp)) (f2 : w.frozen? ⟨bd, 2, none⟩ = false)
    (ck : w.cell? ⟨b, off, none⟩ = some (.int .i64 k)) :
    Calls Try.prog 32 #[.int .i64 n, .pointer (some ⟨bx, 0, none⟩)] w fun e w' => e = .returned (.int .i64 (mayK k n)) ∧
      ∃ q, w' = (w.setCell ⟨bd, 2, none⟩ (.slice (some ⟨b, tlOff off cp, none⟩) (lp - 1) (cp - 1))).drewN q := by
  by_cases h1 : 1 < cp
  · have H := Lib.hid (show tlOff off cp = off + 1 by unfold tlOff; rw [if_neg (by omega)])
    go_enter Try.func32, Try.ntmps32
    go_wp2
    go_region
    all_goals go_wp2
    all_goals go_ret
    all_goals rw [H.out]
    · exact ⟨ret_i64 (by unfold mayK; rw [if_pos ‹_›]), 1, rfl⟩
    · exact ⟨ret_i64 (by unfold mayK; rw [if_neg (by omega)]; omega), 1, rfl⟩
    · exact ⟨ret_i64 (by unfold mayK; rw [if_neg (by omega)]; omega), 1, rfl⟩
  · obtain rfl : cp = 1 := by omega
    obtain rfl : lp = 1 := by omega
    have H := Lib.hid (show tlOff off 1 = off by unfold tlOff; rw [if_pos rfl])
    go_enter Try.func32, Try.ntmps32
    go_wp2
    go_region
    all_goals go_wp2
    all_goals go_ret
    all_goals rw [H.out]
    · exact ⟨ret_i64 (by unfold mayK; rw [if_pos ‹_›]), 1, rfl⟩
    · exact ⟨ret_i64 (by unfold mayK; rw [if_neg (by omega)]; omega), 1, rfl⟩
    · exact ⟨ret_i64 (by unfold mayK; rw [if_neg (by omega)]; omega), 1, rfl⟩

/-- A slice without its first element. -/
theorem Rd.tail {α : Type} {w : World} {own : Nat → Prop} {enc : α → Value} {b off len cap : Nat} {x : α} {l : List α} (h : Rd w own enc (.slice (some ⟨b, off, none⟩) len cap) (x :: l)) :
    Rd w own enc (.slice (some ⟨b, tlOff off cap, none⟩) (len - 1) (cap - 1)) l := by
  obtain ⟨a, c, hv, hl, hc, hn, hr⟩ := h
  cases hv
  simp only [List.length_cons] at hl
  refine ⟨_, _, by rw [List.length_cons, Nat.add_sub_cancel], by omega, by omega, fun h => (by cases h), fun hne => ?_⟩
  obtain ⟨b', off', ha, hb, hcell⟩ := hr (by simp)
  cases ha
  have : cap ≠ 1 := by
    intro e; subst e
    have : l.length = 0 := by omega
    exact hne (List.length_eq_zero_iff.1 this)
  refine ⟨b, off + 1, by unfold tlOff; rw [if_neg this], hb, fun i y hy => ?_⟩
  have := hcell (i + 1) y (by simpa using hy)
  rwa [show off + (i + 1) = off + 1 + i by omega] at this

theorem may_any (n : Int) (bx bd : Nat) (vp : Value) (plan : List Int) (own : Nat → Prop) (w : World)
    (c0 : w.cell? ⟨bx, 0, none⟩ = some (.pointer (some ⟨bd, 0, none⟩))) (c2 : w.cell? ⟨bd, 2, none⟩ = some vp) (f2 : w.frozen? ⟨bd, 2, none⟩ = false) (hr : Rd w own intV vp plan) :
    Calls Try.prog 32 #[.int .i64 n, .pointer (some ⟨bx, 0, none⟩)] w fun e w' => e = .returned (.int .i64 (mayN plan n)) ∧
      ∃ q a l c, Rd w own intV (.slice a l c) plan.tail ∧ w' = (w.setCell ⟨bd, 2, none⟩ (.slice a l c)).drewN q := by
  have hr' := hr
  obtain ⟨a, cap, rfl, hl, hc, hn, hcells⟩ := hr
  unfold maxLen at hc
  cases plan with
  | nil =>
    refine (may_empty n bx bd a cap w c0 c2).mono ?_
    rintro e w' ⟨rfl, rfl⟩
    exact ⟨rfl, 0, a, 0, cap, hr', by simp only [List.length_nil] at c2; rw [setCell_self c2]; rfl⟩
  | cons k r =>
    obtain ⟨b, off, rfl, hb, hcell⟩ := hcells (by simp)
    have ck := hcell 0 k rfl
    refine (may_some n k bx bd b off _ cap w (by simp) hl (by omega) c0 c2 f2 ck).mono ?_
    rintro e w' ⟨rfl, q, rfl⟩
    exact ⟨rfl, q, _, _, _, hr'.tail, rfl⟩
end Go.Proofs.Ytgihclflndlomaa
