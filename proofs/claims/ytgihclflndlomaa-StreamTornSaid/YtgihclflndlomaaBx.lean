/- placed. -/
import Derived.Test.YtgihclflndlomaaBv
import Derived.Test.YtgihclflndlomaaBd
namespace Go.Proofs.Ytgihclflndlomaa
open Go.RowKit

theorem wpList_copy_run' {P : Program} (w : World) {ops : Array Oper} {rest : List Oper} {o : Oper} {a : Act} {Q : Exit → Act → World → Prop} (hgd : o.guard = none) (s x : Operand) (t tn : TypeId)
    (ho : o.op = .call { callee := .builtin .copy, args := #[s, x], argTypes := #[t, tn] }) (vs vx : Value) (hs : a.eval s = vs) (hx : a.eval x = vx)
    (v' : Value) (w' : World) (hr : (Builtin.copy_ #[t, tn] o.type #[vs, vx]).run P w = .ok v' w') (h : wpList P ops Q rest (a.put o.dst v') w') : wpList P ops Q (o :: rest) a w :=
  wpList_plain hgd fun _ hK => wp_copy_run s x t tn ho vs vx hs hx v' w' hr (hK _ _ h)

theorem row_from' (b n c p : Nat) (hp : p ≤ n) (hc : p < c) (W : World) : (Instr.sliceAt 22 (.slice (some ⟨b, 0, none⟩) n c) (some (.int .i64 (p : Int))) none none).run Try.prog W = .ok (.slice (some ⟨b, p, none⟩) (n - p) (c - p)) W := by
  have hu : Try.prog.underlying 22 = some (.slice (Try.prog.elem 22)) := by rw [elem22]; exact Try.underlying22
  rw [run_sliceAt_slice W 22 _ _ _ _ hu, run_slice_l W 22 _ n c hu .i64 (p : Int) (by omega) (by omega), elem22, run_size5]
  simp [sliced, Result.andThen, addr_add, show ¬ c = p by omega]

/-- What placed hands back. -/
def PlacedPost (w : World) (l : List UInt8) (e : Ending) (w' : World) : Prop :=
  ∃ a n c, e = .returned (.slice a n c) ∧ Row 5 byteV w' (fun k => w.heap.size ≤ k) (.slice a n c) l ∧ Below w.heap.size w w'

/-- While zeros are laid behind what was there. -/
def PlacedAt (w : World) (data : List UInt8) (j : Nat) (v : Value) (W : World) : Prop :=
  Row 5 byteV W (fun k => w.heap.size ≤ k) v (data ++ List.replicate j 0) ∧ Below w.heap.size w W

set_option maxRecDepth 100000 in
set_option maxHeartbeats 4000000 in
theorem placed_calls (w : World) (any any2 : Nat → Prop) (ad ab : Option Addr) (nd cd nb cb p : Nat) (data b : List UInt8) (hd : Rd w any byteV (.slice ad nd cd) data) (hb : Rd w any2 byteV (.slice ab nb cb) b)
    (hl1 : data.length ≤ 2000000) (hl2 : p + b.length ≤ 2000000) :
    Calls Try.prog 21 #[.slice ad nd cd, .int .i64 (p : Int), .slice ab nb cb] w (PlacedPost w (putted data p b)) := by
  have hal : Below w.heap.size w (w.alloc (.cells #[] 5)) := (Below.refl _ w).alloc (Nat.le_refl _) _
  obtain ⟨a1, n1, c1, W1, hrun1, hrow1, htw1, -⟩ := run_app bytesElem (w.alloc (.cells #[] 5)) (fun _ => False) any (.slice (some ⟨w.heap.size, 0, none⟩) 0 0) _ [] data (.inl ⟨rfl, _, rfl⟩) (hd.keep (fun k _ hk => hal.block k hk) (fun _ h _ => h)) 22 (by simp; omega) (by decide)
  have hb1 : Below w.heap.size w W1 := hal.trans ⟨htw1.os, htw1.tape, htw1.output, htw1.size, fun k hk => htw1.keep k (by simp; omega) (fun e => e.1.elim)⟩
  have h1 : PlacedAt w data 0 (.slice a1 n1 c1) W1 := ⟨by simpa using hrow1.keep (own' := fun k => w.heap.size ≤ k) (fun _ _ _ => rfl) (fun k hk _ => hk.elim (fun e => e.elim) (fun e => by simp at e; omega)), hb1⟩
  have hnb := (rd_len hb).1
  have hnd := (rd_len hd).1
  have Hrun1 := Lib.hid hrun1
  have H1 := Lib.hid h1
  have Hb := Lib.hid hb
  have Hn := Lib.hid (And.intro hnb hnd)
  have hbnd : p + nb ≤ 2000000 := by omega
  have hbnd2 : nd ≤ 2000000 := by omega
  clear hal hrun1 hrow1 htw1 hb1 h1 hb hnb hnd hd hl1 hl2
  by_cases h0 : nb = 0
  · have h0' : ((nb : Int) == 0) = true := by simp [h0]
    have H0 := Lib.hid h0
    clear h0
    go_enter Try.func21, Try.ntmps21
    go_wp2_with (at_builtin; refine Lib.wpList_append_run _ rfl (.tmp 8) (.tmp 9) 22 22 rfl _ _ rfl rfl (.slice a1 n1 c1) W1 (Eq.trans ?_ Hrun1.out) ?_; focus kernel_rfl)
    go_ret
    have hb0 : b = [] := List.length_eq_zero_iff.1 (by have := Hn.out.1; have := H0.out; omega)
    refine ⟨_, _, _, rfl, ?_, H1.out.2⟩
    have := H1.out.1
    rw [hb0]
    simpa [putted] using this
  have h0' : ((nb : Int) == 0) = false := by simpa using h0
  have H0 := Lib.hid h0
  clear h0
  go_enter Try.func21, Try.ntmps21
  go_wp2_with (at_builtin; refine Lib.wpList_append_run _ rfl (.tmp 8) (.tmp 9) 22 22 rfl _ _ rfl rfl (.slice a1 n1 c1) W1 (Eq.trans ?_ Hrun1.out) ?_; focus kernel_rfl)
  obtain ⟨Z, hZ⟩ : ∃ Z : Nat, Z = p + nb - nd := ⟨_, rfl⟩
  have HZ := Lib.hid hZ
  clear hZ
  go_loopg [7] Z (fun g v wr => ∃ j, j + g = Z ∧ PlacedAt w data j v wr)
  case atStart => exact ⟨0, by omega, H1.out⟩
  case round =>
    obtain ⟨j, hjg, hrow, hbe⟩ := hrel
    have Hbe := Lib.hid hbe
    have Hjg := Lib.hid hjg
    obtain ⟨av, cv, hv, hcv, hcm⟩ := hrow.shape
    obtain ⟨t, ht⟩ : ∃ t, (data ++ List.replicate j 0).length = t := ⟨_, rfl⟩
    rw [ht] at hv hcv
    subst hv
    have htj : t = nd + j := by have := Hn.out.2; simp at ht; omega
    have htb : t ≤ 4000000 := by have := HZ.out; omega
    have Hrow := Lib.hid hrow
    have Ht := Lib.hid (And.intro ht htj)
    clear hjg hrow ht htj hbe H1
    by_cases hlt : (t : Int) < (p : Int) + nb
    · have hal : Below wr.heap.size wr (wr.alloc (.cells #[.int .u8 0] 5)) := (Below.refl _ wr).alloc (Nat.le_refl _) _
      have RA := Hrow.out.below hal
      obtain ⟨a12, n12, c12, W12, hrun, hrow12, htw, -⟩ := run_app bytesElem (wr.alloc (.cells #[.int .u8 0] 5)) _ (fun _ => True) _ (.slice (some ⟨wr.heap.size, 0, none⟩) 1 1) (data ++ List.replicate j 0) [0] RA
        ((show Row 5 byteV (wr.alloc (.cells #[.int .u8 0] 5)) (fun _ => True) (.slice (some ⟨wr.heap.size, 0, none⟩) 1 1) [0] from .inr ⟨_, 1, #[.int .u8 0], rfl, trivial, alloc_at wr _, Nat.le_refl _, by unfold maxLen; omega, rfl, rfl⟩).rd) 22 (by rw [Ht.out.1]; simp; omega) (by decide)
      have hszr := Hbe.out.size
      have hnext : PlacedAt w data (j + 1) (.slice a12 n12 c12) W12 := by
        refine ⟨?_, Hbe.out.trans ⟨htw.os, htw.tape, htw.output, by have := htw.size; simp at this; omega, fun k hk => ?_⟩⟩
        · rw [List.replicate_succ', ← List.append_assoc]
          exact hrow12.keep (own' := fun k => w.heap.size ≤ k) (fun _ _ _ => rfl) (fun k hk _ => hk.elim id (fun e => by simp at e; omega))
        · rw [htw.keep k (by simp; omega) (fun e => by have := e.1; omega)]
          exact hal.block k (by omega)
      have Hrun := Lib.hid hrun
      have Hnext := Lib.hid hnext
      clear hal RA hrun hrow12 htw hnext
      go_wp2_with (at_builtin; refine Lib.wpList_append_run _ rfl (.tmp 22) (.tmp 23) 22 22 rfl _ _ rfl rfl (.slice a12 n12 c12) W12 (Eq.trans ?_ Hrun.out) ?_; focus kernel_rfl)
      go_roundg (gk - 1)
      case measure => have := HZ.out; have := Hjg.out; have := Ht.out.2; omega
      case rel => exact ⟨j + 1, by have := HZ.out; have := Hjg.out; have := Ht.out.2; omega, Hnext.out⟩
    · have hlr := Ht.out
      have hjz : j = Z := by have := HZ.out; have := Hjg.out; omega
      have hn0 : nb ≠ 0 := H0.out
      obtain ⟨bb, cv', hv2, hcv2, -, hbo⟩ := Hrow.out.block (fun e => by rw [e] at hlr; simp at hlr; omega)
      rw [hlr.1] at hv2
      cases hv2
      have hks := row_from' bb t cv p (by omega) (by omega)
      have hbl : b.length = nb := Hn.out.1
      obtain ⟨W13, hrun13, hrow13, htw13⟩ := run_copy_wr wr _ _ bb cv (data ++ List.replicate j 0) (by rw [hlr.1]; exact Hrow.out) p (t - p) (cv - p) _ b (Hb.out.keep (fun k _ hk => Hbe.out.block k hk) (fun _ h _ => h)) 22 (fun e => by rw [e] at hbl; simp at hbl; omega) (by rw [hlr.1]; omega) (by omega)
      rw [hlr.1] at hrow13
      have hfin : (data ++ List.replicate j 0).take p ++ b ++ (data ++ List.replicate j 0).drop (p + b.length) = putted data p b := by
        rw [hjz, HZ.out, ← Hn.out.2, putted, if_neg (fun e => by rw [e] at hbl; simp at hbl; omega)]
        exact putAt_eq data p nb b hbl
      rw [hfin] at hrow13
      have Hfin := Lib.hid (show PlacedPost w (putted data p b) (.returned (.slice (some ⟨bb, 0, none⟩) t cv)) W13 from ⟨_, _, _, rfl, hrow13, Hbe.out.trans ⟨htw13.os, htw13.tape, htw13.output, htw13.size, fun k hk => htw13.keep k (by have := Hbe.out.size; omega) (fun e => by have := e.1; omega)⟩⟩)
      have Hrun13 := Lib.hid hrun13
      clear hlr hjz hn0 hcv2 hbo hbl hrun13 hrow13 htw13 hfin
      go_wp2_with (refine wpList_copy_run' _ rfl (.tmp 27) (.tmp 28) 22 22 rfl _ _ rfl rfl (goInt b.length) W13 (Eq.trans ?_ Hrun13.out) ?_; focus kernel_rfl)
      go_ret
      exact Hfin.out
end Go.Proofs.Ytgihclflndlomaa
