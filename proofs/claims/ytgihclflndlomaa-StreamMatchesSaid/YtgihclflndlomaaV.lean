/- The iterator of Read: each round a Getc, then yield. -/
import Derived.RangeFuncNested
import Derived.RangeFuncBound
import Derived.RangeFuncCalls
import Derived.RangeFuncLeaves
import Derived.Shelf.Abstract
import Derived.Shelf.RegionOpen
import Derived.OwnWalkIn
import Derived.TacticsInMore
import Derived.LoopNIn
import Derived.LoopIn
import Derived.Test.YtgihclflndlomaaI
namespace Go.Proofs.Ytgihclflndlomaa
open Go.RowKit Go.Shelf
attribute [local go_sem] Oper.semAt_some

theorem readN_step0 (k : Nat) (S : St) (h : S.getc.2.1 ≠ 0) : St.readN (k + 1) S = ([], S.getc.2.1, S.getc.2.2) := by rw [St.readN, if_pos h]
theorem readN_step1 (k : Nat) (S : St) (h : S.getc.2.1 = 0) : St.readN (k + 1) S = (S.getc.1 :: (St.readN k S.getc.2.2).1, (St.readN k S.getc.2.2).2.1, (St.readN k S.getc.2.2).2.2) := by rw [St.readN, if_neg (by simpa using h)]

/-- What a round gets out of the bytes that are read. -/
def onto (pre : List UInt8) (r : List UInt8 × Int × St) : List UInt8 × Int × St := (pre ++ r.1, r.2.1, r.2.2)

set_option maxRecDepth 100000 in
set_option maxHeartbeats 1000000 in
theorem bytes1_in (n l bn bx bs N : Nat) (S0 : St) (J : List UInt8 → St → World → Prop) (Jx : List UInt8 → Int → St → World → Prop) (hN : (N : Int) ≤ 1048576)
    (hc : ∀ pre S W, J pre S W → W.cell? ⟨bn, 0, none⟩ = some (.int .i64 (N : Int)) ∧ W.cell? ⟨bx, 0, none⟩ = some (.pointer (some ⟨bs, 0, none⟩)))
    (hG : ∀ pre S W, J pre S W → Calls Try.prog 45 #[.pointer (some ⟨bs, 0, none⟩)] W fun e W' => e = .returned (.tuple #[byteV S.getc.1, .int .i64 S.getc.2.1]) ∧ J pre S.getc.2.2 W')
    (hY : ∀ pre S x e W, J pre S W → pre.length < N → YieldAt Fence.wide (n - 1) Try.prog l #[byteV x, .int .i64 e] W fun r W' =>
      (e = 0 ∧ r = .returned (.bool true) ∧ J (pre ++ [x]) S W') ∨ (e ≠ 0 ∧ r = .returned (.bool false) ∧ Jx pre e S W'))
    (W : World) (h0 : J [] S0 W) :
    CallsIn Fence.wide n Try.prog 59 #[.func (.yield l) #[] #[], .pointer (some ⟨bn, 0, none⟩), .pointer (some ⟨bx, 0, none⟩)] W fun e W' => (∃ v, e = .returned v) ∧
      (((St.readN N S0).2.1 = 0 ∧ J (St.readN N S0).1 (St.readN N S0).2.2 W') ∨ ((St.readN N S0).2.1 ≠ 0 ∧ Jx (St.readN N S0).1 (St.readN N S0).2.1 (St.readN N S0).2.2 W')) := by
  refine callsIn_of_wp Try.func59 rfl trivial ?_ rfl
  simp only [Try.ntmps59, List.size_toArray, List.length_cons, List.length_nil, Nat.reduceAdd, Nat.reduceSub, Array.replicate_succ, Array.replicate_zero, List.push_toArray, List.append_toArray, List.nil_append, List.cons_append]
  obtain ⟨cn, cx⟩ := hc _ _ _ h0
  have HG := Lib.hid hG
  have HY := Lib.hid hY
  have HC := Lib.hid hc
  clear hG hY hc
  gi_wp2
  clear cn cx
  gi_loopw [4, 5, 7] (fun _ _ p wr => ∃ (k : Nat) (pre : List UInt8) (S : St), p = .int .i64 (k : Int) ∧ k ≤ N ∧ pre.length = k ∧ J pre S wr ∧ onto pre (St.readN (N - k) S) = St.readN N S0)
    (fun _ _ p _ => match p with | .int _ m => N - m.toNat | _ => 0)
  case atStart => exact ⟨0, [], S0, rfl, Nat.zero_le _, rfl, h0, rfl⟩
  case round =>
    obtain ⟨k, pre, S, rfl, hk, hlen, hj, hE⟩ := hrel
    have HE := Lib.hid hE
    obtain ⟨-, cx⟩ := HC.out _ _ _ hj
    have Hg := Lib.hid (HG.out _ _ _ hj)
    clear hE
    by_cases hkn : k < N
    · have hb : (k : Int) < (N : Int) := by omega
      have hwr : IntKind.i64.wrap ((k : Int) + 1) = (k : Int) + 1 := IntWalk.i64_in _ (by omega)
      gi_wp2
      refine ⟨trivial, fun h => (by cases h), (callsIn_wide.2 Hg.out).mono ?_⟩
      rintro e W1 ⟨rfl, hj1⟩
      obtain ⟨m, hm⟩ : ∃ m, N - k = m + 1 := ⟨N - k - 1, by omega⟩
      have hE := HE.out
      rw [hm] at hE
      have h0' := fun h => readN_step0 m S h
      have h1' := fun h => readN_step1 m S h
      generalize hx : S.getc.1 = x at *
      generalize he : S.getc.2.1 = e at *
      generalize hs : S.getc.2.2 = S' at *
      obtain ⟨fn, tmps, assign, body, hy, hR⟩ := HY.out pre S' x e W1 hj1 (by omega)
      clear hE
      have H0 := Lib.hid h0'
      have H1 := Lib.hid h1'
      clear h0' h1' cx
      by_cases hz : e = 0
      · have hHE := HE.out
        rw [hm, H1.out hz] at hHE
        subst hz
        gi_wp2
        refine ⟨fun h => (by cases h), hR.mono ?_⟩
        rintro r W2 (⟨-, rfl, hj2⟩ | ⟨h, -, -⟩)
        · have HHE := Lib.hid hHE
          clear hHE
          gi_wp2
          refine ⟨⟨k + 1, pre ++ [x], S', by rw [show ((k : Int) + 1) = ((k + 1 : Nat) : Int) by omega], by omega, by simp; omega, hj2, ?_⟩, by show N - ((k : Int) + 1).toNat < N - (k : Int).toNat; omega⟩
          rw [← HHE.out, show N - (k + 1) = m by omega]
          unfold onto
          simp
        · exact absurd rfl h
      · have hz' : (e != 0) = true := by simpa using hz
        have hHE := HE.out
        rw [hm, H0.out hz] at hHE
        have HHE := Lib.hid hHE
        have Hz := Lib.hid hz
        clear hHE hz
        gi_wp2
        refine ⟨fun h => (by cases h), hR.mono ?_⟩
        rintro r W2 (⟨h, -, -⟩ | ⟨-, rfl, hj2⟩)
        · exact absurd h Hz.out
        · gi_wp2
          refine bodyPost_ret (results_none rfl _ _ _) rfl ?_
          refine ⟨⟨_, rfl⟩, .inr ?_⟩
          rw [← HHE.out]
          refine ⟨Hz.out, ?_⟩
          unfold onto
          rw [List.append_nil]
          exact hj2
    · have hb : ¬ (k : Int) < (N : Int) := by omega
      gi_wp2
      go_end0
      have hkN : k = N := by omega
      subst hkN
      have hE := HE.out
      rw [Nat.sub_self, St.readN] at hE
      unfold onto at hE
      rw [List.append_nil] at hE
      refine ⟨⟨_, rfl⟩, .inl ?_⟩
      rw [← hE]
      exact ⟨rfl, hj⟩
end Go.Proofs.Ytgihclflndlomaa
