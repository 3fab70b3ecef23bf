/- torn. -/
import Derived.Test.YtgihclflndlomaaBx
import Derived.Deep.RegionHeld3
namespace Go.Proofs.Ytgihclflndlomaa
open Go.RowKit

def TornPost (w : World) (e : Ending) (w' : World) : Prop := ∃ r : Int, e = .returned (.int .i64 r) ∧ 0 ≤ r ∧ Below w.heap.size w w'

/-- Between the rounds: the numbers above k have been tried. -/
def TornAt (w : World) (before b after : List UInt8) (p k : Nat) (i : Value) (W : World) : Prop :=
  i = .int .i64 (k : Int) ∧ k ≤ b.length ∧ (∃ j, j ≤ k ∧ putted before p (b.take j) = after) ∧ Below w.heap.size w W

set_option maxRecDepth 100000 in
set_option maxHeartbeats 4000000 in
theorem torn_calls (w : World) (any1 any2 any3 : Nat → Prop) (a1 a2 a3 : Option Addr) (n1 c1 n2 c2 n3 c3 p : Nat) (before b after : List UInt8) (h1 : Rd w any1 byteV (.slice a1 n1 c1) before) (h2 : Rd w any2 byteV (.slice a2 n2 c2) b)
    (h3 : Rd w any3 byteV (.slice a3 n3 c3) after) (hl1 : before.length ≤ 2000000) (hl2 : p + b.length ≤ 2000000) (he : ∃ j, j ≤ b.length ∧ putted before p (b.take j) = after) :
    Calls Try.prog 19 #[.slice a1 n1 c1, .int .i64 (p : Int), .slice a2 n2 c2, .slice a3 n3 c3] w (TornPost w) := by
  have hn2 := (rd_len h2)
  have H1 := Lib.hid h1
  have H2 := Lib.hid h2
  have H3 := Lib.hid h3
  have Hn2 := Lib.hid hn2
  have Hst := Lib.hid (show TornAt w before b after p n2 (.int .i64 (n2 : Int)) w from ⟨rfl, by omega, by rw [← hn2.1]; exact he, Below.refl _ _⟩)
  have hnb : n2 ≤ 2000000 := by omega
  have Hl := Lib.hid (And.intro hl1 hl2)
  clear h1 h2 h3 hn2 hl1 hl2 he
  go_enter Try.func19, Try.ntmps19
  go_wp2_with fail
  go_loopg [9] n2 (fun g i wr => TornAt w before b after p g i wr)
  case atStart => exact Hst.out
  case round =>
    obtain ⟨rfl, hk, hex, hbe⟩ := hrel
    obtain ⟨k, hkk⟩ : ∃ k, k = gk := ⟨_, rfl⟩
    rw [← hkk] at hk hex ⊢
    have Hgk := Lib.hid hkk
    have hk2 : k ≤ n2 := by have := Hn2.out; omega
    have hk3 : k ≤ c2 := by have := Hn2.out; omega
    have hks := run_to a2 n2 c2 k hk3
    have Hbe := Lib.hid hbe
    have haf : Rd wr.drew any3 byteV (.slice a3 n3 c3) after := H3.out.keep (fun i _ hi => hbe.block i hi) (fun _ h _ => h)
    have kW : (convert 22 9 (.slice a3 n3 c3)).run Try.prog wr.drew = .ok (.string ⟨after.toArray⟩) wr.drew := conv_str haf
    have Haf := Lib.hid haf
    have Hpl := Lib.hid (placed_calls wr.drew any1 any2 a1 a2 n1 c1 k c2 p before (b.take k) (H1.out.keep (fun i _ hi => hbe.block i hi) (fun _ h _ => h))
      ((H2.out.take k (by have := Hn2.out; omega)).keep (fun i _ hi => hbe.block i hi) (fun _ h _ => h)) Hl.out.1 (by have := Hl.out.2; simp; omega))
    have Hex := Lib.hid hex
    clear hk hex hbe haf hkk Hst
    by_cases heq : putted before p (b.take k) = after
    · rw [heq] at Hpl
      have Heq := Lib.hid heq
      clear heq
      go_wp2_with fail
      refine wp_region_held_drew (S := fun w' => (convert 22 9 (.slice a3 n3 c3)).run Try.prog w' = .ok (.string ⟨after.toArray⟩) w') (by kernel_rfl) kW (fun hHeld => ?_)
      refine wpAnyH_take (i := 0) (v := .slice a1 n1 c1) (List.getElem?_toArray.trans rfl) (by kernel_rfl) (by kernel_rfl) (by kernel_rfl) (fun _ _ _ h => h) (Or.inl ⟨by rfl, fun _ hSw => ?hy⟩) (by assumption) ?rest
      case hy => ((try dsimp only at hSw); go_simp)
      case rest =>
        try simp only [Act.put, List.setIfInBounds_toArray, List.set_cons_zero, List.set_cons_succ]
        refine wpAnyH_take (i := 1) (v := .int .i64 (p : Int)) (List.getElem?_toArray.trans rfl) (by kernel_rfl) (by kernel_rfl) (by kernel_rfl) (fun _ _ _ h => h) (Or.inl ⟨by rfl, fun _ hSw => ?hy⟩) (by assumption) ?rest
        case hy => ((try dsimp only at hSw); go_simp)
        case rest =>
          try simp only [Act.put, List.setIfInBounds_toArray, List.set_cons_zero, List.set_cons_succ]
          refine wpAnyH_take (i := 2) (v := .slice a2 n2 c2) (List.getElem?_toArray.trans rfl) (by kernel_rfl) (by kernel_rfl) (by kernel_rfl) (fun _ _ _ h => h) (Or.inl ⟨by rfl, fun _ hSw => ?hy⟩) (by assumption) ?rest
          case hy => ((try dsimp only at hSw); go_simp)
          case rest =>
            try simp only [Act.put, List.setIfInBounds_toArray, List.set_cons_zero, List.set_cons_succ]
            refine wpAnyH_take (i := 3) (v := .int .i64 (k : Int)) (List.getElem?_toArray.trans rfl) (by kernel_rfl) (by kernel_rfl) (by kernel_rfl) (fun _ _ _ h => h) (Or.inl ⟨by rfl, fun _ hSw => ?hy⟩) (by assumption) ?rest
            case hy => ((try dsimp only at hSw); go_simp)
            case rest =>
              try simp only [Act.put, List.setIfInBounds_toArray, List.set_cons_zero, List.set_cons_succ]
              refine wpAnyH_take (i := 4) (v := .slice a2 k c2) (List.getElem?_toArray.trans rfl) (by kernel_rfl) (by kernel_rfl) (by kernel_rfl) (fun _ _ _ h => h) (Or.inl ⟨by rfl, fun _ hSw => ?hy⟩) (by assumption) ?rest
              case hy => ((try dsimp only at hSw); go_simp)
              case rest =>
                try simp only [Act.put, List.setIfInBounds_toArray, List.set_cons_zero, List.set_cons_succ]
                refine wpAnyH_take (i := 7) (v := .slice a3 n3 c3) (List.getElem?_toArray.trans rfl) (by kernel_rfl) (by kernel_rfl) (by kernel_rfl) (fun _ _ _ h => h) (Or.inl ⟨by rfl, fun _ hSw => ?hy⟩) (by assumption) ?rest
                case hy => ((try dsimp only at hSw); go_simp)
                case rest =>
                  try simp only [Act.put, List.setIfInBounds_toArray, List.set_cons_zero, List.set_cons_succ]
                  refine wpAnyH_take (i := 8) (v := .string ⟨after.toArray⟩) (List.getElem?_toArray.trans rfl) (by kernel_rfl) (by kernel_rfl) (by kernel_rfl) (fun _ _ _ h => h) (Or.inl ⟨by rfl, fun _ hSw => ?hy⟩) (by assumption) ?rest
                  case hy => ((try dsimp only at hSw); go_simp)
                  case rest =>
                    try simp only [Act.put, List.setIfInBounds_toArray, List.set_cons_zero, List.set_cons_succ]
                    refine wpAnyH_ready (rs := [5]) (by kernel_rfl) (by simp) (AllReadyH.cons (List.getElem?_toArray.trans rfl) (fun K hK => ?step) AllReadyH.nil)
                    case step =>
                      go_simp
                      refine Calls.mono Hpl.out ?_
                      rintro e W15 ⟨a5, n5, c5, rfl, hD, hb15⟩
                      have kD : (convert 22 9 (.slice a5 n5 c5)).run Try.prog W15 = .ok (.string ⟨after.toArray⟩) W15 := conv_str hD.rd
                      have kW2 : (convert 22 9 (.slice a3 n3 c3)).run Try.prog W15 = .ok (.string ⟨after.toArray⟩) W15 := conv_str (Haf.out.keep (own' := fun _ => True) (fun k _ hk => hb15.block k hk) (fun _ _ _ => trivial))
                      have Hb15 := Lib.hid (Hbe.out.trans (show Below w.heap.size wr W15 from ⟨hb15.os, hb15.tape, hb15.output, hb15.size, fun k hk => hb15.block k (Nat.lt_of_lt_of_le hk Hbe.out.size)⟩))
                      clear hD hb15
                      dsimp only
                      refine hK.out _ _ (by first | exact kW | exact kW2) (fun hHeld => ?_)
                      clear hK K
                      try simp only [Act.put, List.setIfInBounds_toArray, List.set_cons_zero, List.set_cons_succ]
                      refine wpAnyH_ready (rs := [6]) (by kernel_rfl) (by simp) (AllReadyH.cons (List.getElem?_toArray.trans rfl) (fun K hK => ?step) AllReadyH.nil)
                      case step =>
                        go_simp
                        refine hK.out _ _ (by first | exact kW | exact kW2) (fun hHeld => ?_)
                        clear hK K
                        try simp only [Act.put, List.setIfInBounds_toArray, List.set_cons_zero, List.set_cons_succ]
                        refine wpAnyH_take (i := 9) (v := .bool true) (List.getElem?_toArray.trans rfl) (by kernel_rfl) (by kernel_rfl) (by kernel_rfl) (fun _ _ _ h => h) (Or.inl ⟨by rfl, fun _ hSw => ?hy⟩) (by assumption) ?rest
                        case hy => ((try dsimp only at hSw); go_simp)
                        case rest =>
                          try simp only [Act.put, List.setIfInBounds_toArray, List.set_cons_zero, List.set_cons_succ]
                          refine wpAnyH_done (by kernel_rfl) ?_ _
                          go_wp2_with fail
                          go_ret
                          exact ⟨_, rfl, by omega, Hb15.out⟩
    · have hk0 : 0 < k := by
        obtain ⟨j, hj, hje⟩ := Hex.out
        by_cases e : j = k
        · subst e; exact absurd hje heq
        · omega
      have Hnext := Lib.hid (show ∃ j, j ≤ k - 1 ∧ putted before p (b.take j) = after by
        obtain ⟨j, hj, hje⟩ := Hex.out
        refine ⟨j, ?_, hje⟩
        by_cases e : j = k
        · subst e; exact absurd hje heq
        · omega)
      have Heq := Lib.hid heq
      clear heq
      go_wp2_with fail
      refine wp_region_held_drew (S := fun w' => (convert 22 9 (.slice a3 n3 c3)).run Try.prog w' = .ok (.string ⟨after.toArray⟩) w') (by kernel_rfl) kW (fun hHeld => ?_)
      refine wpAnyH_take (i := 0) (v := .slice a1 n1 c1) (List.getElem?_toArray.trans rfl) (by kernel_rfl) (by kernel_rfl) (by kernel_rfl) (fun _ _ _ h => h) (Or.inl ⟨by rfl, fun _ hSw => ?hy⟩) (by assumption) ?rest
      case hy => ((try dsimp only at hSw); go_simp)
      case rest =>
        try simp only [Act.put, List.setIfInBounds_toArray, List.set_cons_zero, List.set_cons_succ]
        refine wpAnyH_take (i := 1) (v := .int .i64 (p : Int)) (List.getElem?_toArray.trans rfl) (by kernel_rfl) (by kernel_rfl) (by kernel_rfl) (fun _ _ _ h => h) (Or.inl ⟨by rfl, fun _ hSw => ?hy⟩) (by assumption) ?rest
        case hy => ((try dsimp only at hSw); go_simp)
        case rest =>
          try simp only [Act.put, List.setIfInBounds_toArray, List.set_cons_zero, List.set_cons_succ]
          refine wpAnyH_take (i := 2) (v := .slice a2 n2 c2) (List.getElem?_toArray.trans rfl) (by kernel_rfl) (by kernel_rfl) (by kernel_rfl) (fun _ _ _ h => h) (Or.inl ⟨by rfl, fun _ hSw => ?hy⟩) (by assumption) ?rest
          case hy => ((try dsimp only at hSw); go_simp)
          case rest =>
            try simp only [Act.put, List.setIfInBounds_toArray, List.set_cons_zero, List.set_cons_succ]
            refine wpAnyH_take (i := 3) (v := .int .i64 (k : Int)) (List.getElem?_toArray.trans rfl) (by kernel_rfl) (by kernel_rfl) (by kernel_rfl) (fun _ _ _ h => h) (Or.inl ⟨by rfl, fun _ hSw => ?hy⟩) (by assumption) ?rest
            case hy => ((try dsimp only at hSw); go_simp)
            case rest =>
              try simp only [Act.put, List.setIfInBounds_toArray, List.set_cons_zero, List.set_cons_succ]
              refine wpAnyH_take (i := 4) (v := .slice a2 k c2) (List.getElem?_toArray.trans rfl) (by kernel_rfl) (by kernel_rfl) (by kernel_rfl) (fun _ _ _ h => h) (Or.inl ⟨by rfl, fun _ hSw => ?hy⟩) (by assumption) ?rest
              case hy => ((try dsimp only at hSw); go_simp)
              case rest =>
                try simp only [Act.put, List.setIfInBounds_toArray, List.set_cons_zero, List.set_cons_succ]
                refine wpAnyH_take (i := 7) (v := .slice a3 n3 c3) (List.getElem?_toArray.trans rfl) (by kernel_rfl) (by kernel_rfl) (by kernel_rfl) (fun _ _ _ h => h) (Or.inl ⟨by rfl, fun _ hSw => ?hy⟩) (by assumption) ?rest
                case hy => ((try dsimp only at hSw); go_simp)
                case rest =>
                  try simp only [Act.put, List.setIfInBounds_toArray, List.set_cons_zero, List.set_cons_succ]
                  refine wpAnyH_take (i := 8) (v := .string ⟨after.toArray⟩) (List.getElem?_toArray.trans rfl) (by kernel_rfl) (by kernel_rfl) (by kernel_rfl) (fun _ _ _ h => h) (Or.inl ⟨by rfl, fun _ hSw => ?hy⟩) (by assumption) ?rest
                  case hy => ((try dsimp only at hSw); go_simp)
                  case rest =>
                    try simp only [Act.put, List.setIfInBounds_toArray, List.set_cons_zero, List.set_cons_succ]
                    refine wpAnyH_ready (rs := [5]) (by kernel_rfl) (by simp) (AllReadyH.cons (List.getElem?_toArray.trans rfl) (fun K hK => ?step) AllReadyH.nil)
                    case step =>
                      go_simp
                      refine Calls.mono Hpl.out ?_
                      rintro e W15 ⟨a5, n5, c5, rfl, hD, hb15⟩
                      have kD : (convert 22 9 (.slice a5 n5 c5)).run Try.prog W15 = .ok (.string ⟨(putted before p (b.take k)).toArray⟩) W15 := conv_str hD.rd
                      have kW2 : (convert 22 9 (.slice a3 n3 c3)).run Try.prog W15 = .ok (.string ⟨after.toArray⟩) W15 := conv_str (Haf.out.keep (own' := fun _ => True) (fun k _ hk => hb15.block k hk) (fun _ _ _ => trivial))
                      have Hb15 := Lib.hid (Hbe.out.trans (show Below w.heap.size wr W15 from ⟨hb15.os, hb15.tape, hb15.output, hb15.size, fun k hk => hb15.block k (Nat.lt_of_lt_of_le hk Hbe.out.size)⟩))
                      clear hD hb15
                      dsimp only
                      refine hK.out _ _ (by first | exact kW | exact kW2) (fun hHeld => ?_)
                      clear hK K
                      try simp only [Act.put, List.setIfInBounds_toArray, List.set_cons_zero, List.set_cons_succ]
                      refine wpAnyH_ready (rs := [6]) (by kernel_rfl) (by simp) (AllReadyH.cons (List.getElem?_toArray.trans rfl) (fun K hK => ?step) AllReadyH.nil)
                      case step =>
                        go_simp
                        refine hK.out _ _ (by first | exact kW | exact kW2) (fun hHeld => ?_)
                        clear hK K
                        try simp only [Act.put, List.setIfInBounds_toArray, List.set_cons_zero, List.set_cons_succ]
                        refine wpAnyH_take (i := 9) (v := .bool false) (List.getElem?_toArray.trans rfl) (by kernel_rfl) (by kernel_rfl) (by kernel_rfl) (fun _ _ _ h => h) (Or.inl ⟨by rfl, fun _ hSw => ?hy⟩) (by assumption) ?rest
                        case hy => ((try dsimp only at hSw); go_simp; exact Heq.out)
                        case rest =>
                          try simp only [Act.put, List.setIfInBounds_toArray, List.set_cons_zero, List.set_cons_succ]
                          refine wpAnyH_done (by kernel_rfl) ?_ _
                          go_wp2_with fail
                          go_roundg (k - 1)
                          case measure => have := Hgk.out; omega
                          case rel => exact ⟨by rw [show ((k : Int) - 1) = ((k - 1 : Nat) : Int) by omega], by have := Hn2.out; omega, Hnext.out, Hb15.out⟩
end Go.Proofs.Ytgihclflndlomaa
