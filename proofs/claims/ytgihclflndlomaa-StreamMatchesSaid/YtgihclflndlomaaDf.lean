/- SameBytes and Same of the reference package, at equal devices. -/
import Derived.Test.YtgihclflndlomaaBd
namespace Go.Proofs.Ytgihclflndlomaa
open Go.RowKit

theorem sameBytes_calls {w : World} {any any' : Nat → Prop} {a b : Option Addr} {n c n' c' : Nat} {l : List UInt8} (h1 : Rd w any byteV (.slice a n c) l) (h2 : Rd w any' byteV (.slice b n' c') l) :
    Calls Try.prog 56 #[.slice a n c, .slice b n' c'] w fun e w' => e = .returned (.bool true) ∧ w' = w := by
  have kA : (convert 22 9 (.slice a n c)).run Try.prog w = .ok (.string ⟨l.toArray⟩) w := conv_str h1
  have kB : (convert 22 9 (.slice b n' c')).run Try.prog w = .ok (.string ⟨l.toArray⟩) w := conv_str h2
  clear h1 h2
  go_enter Try.func56, Try.ntmps56
  go_wp2_with fail
  go_ret
  exact ⟨rfl, rfl⟩

set_option maxRecDepth 100000 in
set_option maxHeartbeats 4000000 in
theorem same_calls {w : World} {any any' : Nat → Prop} {a a2 b b2 : Option Addr} {n c n2 c2 m d m2 d2 : Nat} {max : Int} {l : List UInt8} {p : List Int}
    (h1 : Rd w any byteV (.slice a n c) l) (h2 : Rd w any intV (.slice a2 n2 c2) p) (h3 : Rd w any' byteV (.slice b m d) l) (h4 : Rd w any' intV (.slice b2 m2 d2) p) :
    Calls Try.prog 27 #[.agg #[.slice a n c, .int .i64 max, .slice a2 n2 c2], .agg #[.slice b m d, .int .i64 max, .slice b2 m2 d2]] w fun e w' => e = .returned (.bool true) ∧ Below w.heap.size w w' := by
  have hn2 := (rd_len h2).1
  have hm2 := (rd_len h4).1
  have hbig := rd_len h2
  unfold maxLen at hbig
  obtain ⟨W0, hW0⟩ : ∃ W0, (w.alloc (.cells #[.slice a n c, .int .i64 max, .slice a2 n2 c2] 25)).alloc (.cells #[.slice b m d, .int .i64 max, .slice b2 m2 d2] 25) = W0 := ⟨_, rfl⟩
  have hbe : Below w.heap.size w W0 := by rw [← hW0]; exact ((Below.refl _ w).alloc (Nat.le_refl _) _).alloc (by simp) _
  have k0 : W0.cell? ⟨w.heap.size, 0, none⟩ = some (.slice a n c) := by rw [← hW0]; simp [go_sem]
  have k1 : W0.cell? ⟨w.heap.size, 1, none⟩ = some (.int .i64 max) := by rw [← hW0]; simp [go_sem]
  have k2 : W0.cell? ⟨w.heap.size, 2, none⟩ = some (.slice a2 n2 c2) := by rw [← hW0]; simp [go_sem]
  have j0 : W0.cell? ⟨w.heap.size + 1, 0, none⟩ = some (.slice b m d) := by rw [← hW0]; simp [go_sem]
  have j1 : W0.cell? ⟨w.heap.size + 1, 1, none⟩ = some (.int .i64 max) := by rw [← hW0]; simp [go_sem]
  have j2 : W0.cell? ⟨w.heap.size + 1, 2, none⟩ = some (.slice b2 m2 d2) := by rw [← hW0]; simp [go_sem]
  have hm : n2 = m2 := by omega
  subst hm
  have Hbe := Lib.hid hbe
  have H2 := Lib.hid (h2.keep (fun b _ hl => hbe.block b hl) (fun _ h _ => h))
  have H4 := Lib.hid (h4.keep (fun b _ hl => hbe.block b hl) (fun _ h _ => h))
  have Hs := Lib.hid (sameBytes_calls (h1.keep (fun b _ hl => hbe.block b hl) (fun _ h _ => h)) (h3.keep (fun b _ hl => hbe.block b hl) (fun _ h _ => h)))
  have Hn := Lib.hid hn2
  have hlim : n2 ≤ 9223372036854775807 := by omega
  clear h1 h2 h3 h4 hbe hn2 hm2 hbig
  go_enter Try.func27, Try.ntmps27
  go_wp2_with fail
  refine Calls.mono Hs.out ?_
  rintro e w1 ⟨rfl, hw⟩
  rw [hw]
  clear hw Hs hW0
  go_wp2_with fail
  go_loopg [5] n2 (fun g i wr => ∃ k q : Nat, k + g = n2 ∧ i = .int .i64 (k : Int) ∧ wr = W0.drewN q)
  case atStart => exact ⟨0, 0, by omega, rfl, rfl⟩
  case round =>
    obtain ⟨k, q, hkg, rfl, rfl⟩ := hrel
    have Hkg := Lib.hid hkg
    have hk16 : k ≤ n2 := by omega
    clear hkg
    by_cases hlt : k < n2
    · obtain ⟨y, hy⟩ : ∃ y, p[k]? = some y := ⟨_, List.getElem?_eq_getElem (by have := Hn.out; omega)⟩
      obtain ⟨A, e1, B, rfl, -, hA⟩ : ∃ A e1, ∃ B : Unit, a2 = some ⟨A, e1, none⟩ ∧ True ∧ ∀ i x, p[i]? = some x → W0.cell? ⟨A, e1 + i, none⟩ = some (intV x) := by
        obtain ⟨a', cap, hv, -, -, -, hr⟩ := H2.out
        cases hv
        obtain ⟨b', off, h1, -, h3⟩ := hr (fun e => by rw [e] at hy; simp at hy)
        exact ⟨b', off, (), h1, trivial, h3⟩
      obtain ⟨A', e1', B', rfl, -, hA'⟩ : ∃ A e1, ∃ B : Unit, b2 = some ⟨A, e1, none⟩ ∧ True ∧ ∀ i x, p[i]? = some x → W0.cell? ⟨A, e1 + i, none⟩ = some (intV x) := by
        obtain ⟨a', cap, hv, -, -, -, hr⟩ := H4.out
        cases hv
        obtain ⟨b', off, h1, -, h3⟩ := hr (fun e => by rw [e] at hy; simp at hy)
        exact ⟨b', off, (), h1, trivial, h3⟩
      have z1 : W0.cell? ⟨A, e1 + k, none⟩ = some (.int .i64 y) := hA k y hy
      have z2 : W0.cell? ⟨A', e1' + k, none⟩ = some (.int .i64 y) := hA' k y hy
      clear hA hA' hy
      go_wp2_with fail
      go_quiet (fail)
      go_wp2_with fail
      go_roundg (gk - 1)
      case measure => have := Hkg.out; omega
      case rel => exact ⟨k + 1, _, by have := Hkg.out; omega, by rw [show ((k : Int) + 1) = ((k + 1 : Nat) : Int) by omega], rfl⟩
    · go_wp2_with fail
      go_ret
      exact ⟨rfl, below_drewN Hbe.out _⟩
end Go.Proofs.Ytgihclflndlomaa
