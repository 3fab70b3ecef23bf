/- What of a stream without a plan does not depend on its buffer, in plain Lean. -/
import Derived.Test.YtgihclflndlomaaBv
namespace Go.Proofs.Ytgihclflndlomaa

structure Vw where
  data : List UInt8
  place : Int
  back : List UInt8
  endm : Bool
  opened : Bool
  rd : Bool
  wr : Bool
  app : Bool
  max : Int

/-- A stream without a plan is seen so. -/
structure Seen (S : St) (v : Vw) : Prop where
  ok : S.Ok
  pl : S.plan = []
  data : putted S.data S.pos.toNat S.wait = v.data
  place : S.pos + S.wait.length - S.ahead.length = v.place
  back : S.back = v.back
  endm : S.endm = v.endm
  opened : S.opened = v.opened
  rd : S.rd = v.rd
  wr : S.wr = v.wr
  app : S.app = v.app
  max : S.max = v.max
  bad : S.bad = false
  w1 : S.wait ≠ [] → S.ahead = [] ∧ S.back = []
  w2 : S.endm = true → S.ahead = []
  w3 : S.ahead = (S.data.drop (S.pos.toNat - S.ahead.length)).take S.ahead.length
  w4 : S.app = true → S.wait ≠ [] → S.pos = S.data.length

/-- A move that does not fail changes nothing that is seen. -/
theorem seen_move {S : St} {v : Vw} (h : Seen S v) (h14 : S.move.2.1 ≠ 14) : S.move.2.1 = 0 ∧ Seen S.move.2.2 v ∧ S.move.2.2.wait = [] := by
  have hok := (move_ok S h.ok).1
  by_cases hw : S.wait = []
  · have hm : S.move = (0, 0, S) := by unfold St.move; rw [if_pos hw]
    rw [hm]
    exact ⟨rfl, h, hw⟩
  · by_cases hr : S.pos + S.wait.length ≤ S.max
    · have hm := move_room S h.pl hw hr
      have hd := h.data
      rw [putted, if_neg hw] at hd
      obtain ⟨ha, hb⟩ := h.w1 hw
      have hp := h.place
      rw [ha] at hp
      rw [hm] at hok ⊢
      refine ⟨rfl, ⟨hok, h.pl, by show putted (putAt S.data S.pos.toNat S.wait) _ [] = _; rw [hd]; rfl, by show S.pos + S.wait.length + (([] : List UInt8).length : Int) - S.ahead.length = _; rw [ha]; simp at hp ⊢; omega,
        h.back, h.endm, h.opened, h.rd, h.wr, h.app, h.max, h.bad, fun e => absurd rfl e, h.w2, by show S.ahead = _; rw [ha]; rfl, fun _ e => absurd rfl e⟩, rfl⟩
    · exfalso
      apply h14
      unfold St.move
      rw [if_neg hw]
      have hk : S.moveK < S.wait.length := by
        unfold St.moveK mayN
        rw [h.pl]
        have := h.ok.pos1
        simp only
        rw [Int.min_def, Int.max_def]
        repeat' split
        all_goals omega
      show (if S.moveK < S.wait.length then (14 : Int) else 0) = 14
      rw [if_pos hk]
end Go.Proofs.Ytgihclflndlomaa
