/- StreamWrites: the walk. -/
import Derived.Test.YtgihclflndlomaaBv
import Derived.Test.YtgihclflndlomaaBd
import Derived.Test.YtgihclflndlomaaK
import Derived.Deep.RegionWith
namespace Go.Proofs.Ytgihclflndlomaa
open Go.RowKit

theorem wpList_copy_run {P : Program} (w : World) {ops : Array Oper} {rest : List Oper} {o : Oper} {a : Act} {Q : Exit → Act → World → Prop} (hgd : o.guard = none) (s x : Operand) (t tn : TypeId)
    (ho : o.op = .call { callee := .builtin .copy, args := #[s, x], argTypes := #[t, tn] }) (vs vx : Value) (hs : a.eval s = vs) (hx : a.eval x = vx)
    (v' : Value) (w' : World) (hr : (Builtin.copy_ #[t, tn] o.type #[vs, vx]).run P w = .ok v' w') (h : wpList P ops Q rest (a.put o.dst v') w') : wpList P ops Q (o :: rest) a w :=
  wpList_plain hgd fun _ hK => wp_copy_run s x t tn ho vs vx hs hx v' w' hr (hK _ _ h)

/-- A slice of a row, from a place on. -/
theorem row_from (b n c p : Nat) (hp : p ≤ n) (hc : p < c) (W : World) : (Instr.sliceAt 22 (.slice (some ⟨b, 0, none⟩) n c) (some (.int .i64 (p : Int))) none none).run Try.prog W = .ok (.slice (some ⟨b, p, none⟩) (n - p) (c - p)) W := by
  have hu : Try.prog.underlying 22 = some (.slice (Try.prog.elem 22)) := by rw [elem22]; exact Try.underlying22
  rw [run_sliceAt_slice W 22 _ _ _ _ hu, run_slice_l W 22 _ n c hu .i64 (p : Int) (by omega) (by omega), elem22, run_size5]
  simp [sliced, Result.andThen, addr_add, show ¬ c = p by omega]

/-- While zeros are laid behind what was there: the first slice holds what was written, the second one is being filled. -/
def WritesAt (w : World) (dv : Array Value) (bs : Nat) (S : St) (K : Nat) (data all : List UInt8) (va : Value) (j : Nat) (v : Value) (W : World) : Prop :=
  ∃ own m, Lw w W dv own bs S m ∧ K ≤ W.heap.size ∧ Rd W (fun b => Mine w own b ∧ b < K) byteV va all ∧ Row 5 byteV W (fun b => K ≤ b ∧ ¬ own b) v (data ++ List.replicate j 0)

set_option maxRecDepth 100000 in
set_option maxHeartbeats 8000000 in
theorem writes_calls (w : World) (a a2 : Option Addr) (n c n2 c2 : Nat) (max at_ : Int) (md : Md) (ax ay : Option Addr) (nx cx ny cy : Nat) (data x y : List UInt8)
    (hd : Rd w (fun b => b < w.heap.size) byteV (.slice a n c) data) (hx : Rd w (fun b => b < w.heap.size) byteV (.slice ax nx cx) x) (hy : Rd w (fun b => b < w.heap.size) byteV (.slice ay ny cy) y) :
    Calls Try.prog 5 #[.agg #[.slice a n c, .int .i64 max, .slice a2 n2 c2], .agg #[.bool md.rd, .bool md.wr, .bool md.app, .int .i64 md.size, .bool md.lines], .int .i64 at_, .slice ax nx cx, .slice ay ny cy] w
      fun e w' => e = .returned (.bool true) ∧ Below w.heap.size w w' := by
  go_enter Try.func5, Try.ntmps5
  go_wp2_with fail
  refine (sane_calls _).mono ?_
  rintro e W1 ⟨rfl, hb1⟩
  have hz1 : w.heap.size + 1 < W1.heap.size := by have := hb1.size; simp at this; omega
  have hx1 : W1.heap[w.heap.size]? = some (.cells #[.slice a n c, .int .i64 max, .slice a2 n2 c2] 25 (0, 0)) := (hb1.block _ (by simp; omega)).trans ((Below.heap_alloc _ _ _ (by simp)).trans (alloc_at w _))
  have hm1 : W1.heap[w.heap.size + 1]? = some (.cells #[.bool md.rd, .bool md.wr, .bool md.app, .int .i64 md.size, .bool md.lines] 32 (0, 0)) := (hb1.block _ (by simp)).trans (by have := alloc_at (w.alloc (.cells #[.slice a n c, .int .i64 max, .slice a2 n2 c2] 25)) (.cells #[.bool md.rd, .bool md.wr, .bool md.app, .int .i64 md.size, .bool md.lines] 32); rwa [World.size_alloc] at this)
  have hx2 : (W1.setCell ⟨w.heap.size, 2, none⟩ (.slice none 0 0)).heap[w.heap.size]? = some (.cells #[.slice a n c, .int .i64 max, .slice none 0 0] 25 (0, 0)) := heap_setCell_same W1 w.heap.size 2 _ _ _ hx1
  have hm2 : (W1.setCell ⟨w.heap.size, 2, none⟩ (.slice none 0 0)).heap[w.heap.size + 1]? = some (.cells #[.bool md.rd, .bool md.wr, .bool md.app, .int .i64 md.size, .bool md.lines] 32 (0, 0)) := (Below.heap_setCell _ _ _ _ (by simp)).trans hm1
  have hbe : Below w.heap.size w (W1.setCell ⟨w.heap.size, 2, none⟩ (.slice none 0 0)) := ((((Below.refl _ w).alloc (Nat.le_refl _) _).alloc (by simp) _).trans (hb1.mono (by simp; omega))).setCell (by simp) _
  have c0 : W1.cell? ⟨w.heap.size, 0, none⟩ = some (.slice a n c) := cell_of_row _ _ 0 _ _ _ hx1
  have c1 : W1.cell? ⟨w.heap.size, 1, none⟩ = some (.int .i64 max) := cell_of_row _ _ 1 _ _ _ hx1
  have c2' : W1.cell? ⟨w.heap.size, 2, none⟩ = some (.slice a2 n2 c2) := cell_of_row _ _ 2 _ _ _ hx1
  have f2 : W1.frozen? ⟨w.heap.size, 2, none⟩ = false := frozen_of_row _ _ 2 _ _ hx1
  have d0 := cell_of_row _ _ 0 _ _ _ hm1
  have d1 := cell_of_row _ _ 1 _ _ _ hm1
  have d2 := cell_of_row _ _ 2 _ _ _ hm1
  have d3 := cell_of_row _ _ 3 _ _ _ hm1
  have d4 := cell_of_row _ _ 4 _ _ _ hm1
  have Hx2 := Lib.hid hx2
  have Hm2 := Lib.hid hm2
  have Hbe := Lib.hid hbe
  clear hb1 hx1 hx2 hbe hm1 hm2
  go_wp2_with fail
  obtain ⟨W2, hW2⟩ : ∃ W2, W1.setCell ⟨w.heap.size, 2, none⟩ (.slice none 0 0) = W2 := ⟨_, rfl⟩
  have hx2 := Hx2.out
  have hm2 := Hm2.out
  have hbe := Hbe.out
  rw [hW2] at hx2 hm2 hbe ⊢
  clear Hx2 Hm2 Hbe hW2 c0 c1 c2' f2 hz1 d0 d1 d2 d3 d4
  have hd2 := hd.law hbe
  refine (open_calls W2 _ a none n c 0 0 max data [] md hd2 (Rd.nil _ _ _) (by decide)).mono ?_
  rintro e W3 (⟨hr, rfl, hb3⟩ | ⟨hr, bs, own, rfl, ⟨m, hs⟩, hown, hb3⟩)
  · clear hr
    have Hfin := Lib.hid (hbe.trans (hb3.mono hbe.size))
    clear hbe hb3 hd2 hx2 hm2
    go_wp2_with fail
    go_ret
    exact ⟨rfl, Hfin.out⟩
  · have hL : Lw w W3 #[.slice a n c, .int .i64 max, .slice none 0 0] own bs (St.fresh data max [] md) m := ⟨hs, fun k hk => Nat.lt_of_lt_of_le (Array.getElem?_eq_some_iff.1 hx2).1 (hown k hk), hbe.trans (hb3.mono hbe.size), (hb3.block _ (Array.getElem?_eq_some_iff.1 hx2).1).trans hx2⟩
    have hm2l := (Array.getElem?_eq_some_iff.1 hm2).1
    have hm3 : W3.heap[w.heap.size + 1]? = some (.cells #[.bool md.rd, .bool md.wr, .bool md.app, .int .i64 md.size, .bool md.lines] 32 (0, 0)) := (hb3.block _ hm2l).trans hm2
    have hnm : ¬ own (w.heap.size + 1) := fun e => by have := hown _ e; omega
    have c0 := hL.box 0
    have c1 := hL.box 1
    have e1 := cell_of_row _ _ 1 _ _ _ hm3
    have e2 := cell_of_row _ _ 2 _ _ _ hm3
    have hn := (rd_len hd).1
    have hnx := (rd_len hx).1
    have hny := (rd_len hy).1
    have hxm := (rd_len hx).2
    have hym := (rd_len hy).2
    have HL := Lib.hid hL
    have Hr := Lib.hid hr
    have Hm := Lib.hid (And.intro hm3 hnm)
    have Hn := Lib.hid (And.intro hn (And.intro hnx hny))
    clear hs hown hb3 hbe hx2 hd2 hL hr hm2 hm3 hnm hm2l hn hnx hny
    by_cases hw : md.wr = true
    case neg =>
      have hw' : md.wr = false := by simpa using hw
      rw [hw'] at e1
      have Hw := Lib.hid hw'
      clear hw hw'
      go_wp2_with fail
      go_ret
      exact ⟨rfl, HL.out.be⟩
    rw [hw] at e1
    have Hw := Lib.hid hw
    clear hw
    by_cases g1 : 2000 < (n : Int)
    · go_wp2_with fail
      go_ret
      exact ⟨rfl, HL.out.be⟩
    by_cases g2 : 300 < (nx : Int)
    · go_wp2_with fail
      go_ret
      exact ⟨rfl, HL.out.be⟩
    by_cases g3 : 300 < (ny : Int)
    · go_wp2_with fail
      go_ret
      exact ⟨rfl, HL.out.be⟩
    by_cases g4 : at_ < 0
    · go_wp2_with fail
      go_ret
      exact ⟨rfl, HL.out.be⟩
    by_cases g5 : 2000 < at_
    · go_wp2_with fail
      go_ret
      exact ⟨rfl, HL.out.be⟩
    obtain ⟨q, rfl⟩ : ∃ q : Nat, at_ = q := ⟨at_.toNat, by omega⟩
    have hok := fresh_ok Hr.out
    have hseek := fresh_seek (data := data) (max := max) (md := md) (q : Int) (by omega) (by omega)
    have hsok := seek_ok _ hok (q : Int) 0
    have Hsk := seek_calls ⟨m, HL.out.l⟩ hok (q : Int) 0
    rw [hseek] at Hsk hsok
    clear hseek hok
    by_cases hq : max < (q : Int)
    · rw [if_pos hq] at Hsk
      have Hsk := Lib.hid Hsk
      clear hsok
      go_wp2_with fail
      refine Calls.mono Hsk.out ?_
      rintro e W4 ⟨rfl, own4, m4, h4, f4⟩
      have HL4 := Lib.hid (HL.out.step h4 f4)
      have c1 := HL4.out.box 1
      clear h4 f4
      go_wp2_with fail
      go_ret
      exact ⟨rfl, HL4.out.be⟩
    rw [if_neg hq] at Hsk hsok
    have Hsk := Lib.hid Hsk
    have Hsok := Lib.hid hsok
    clear hsok
    go_wp2_with fail
    refine Calls.mono Hsk.out ?_
    rintro e W4 ⟨rfl, own4, m4, h4, f4⟩
    have L4 := HL.out.step h4 f4
    have hm4 := (f4.keep _ (Array.getElem?_eq_some_iff.1 Hm.out.1).1 Hm.out.2).trans Hm.out.1
    have c0 := L4.box 0
    have c1 := L4.box 1
    have e2 := cell_of_row _ _ 2 _ _ _ hm4
    have HL4 := Lib.hid L4
    clear h4 f4 L4 hm4 Hsk HL Hm
    obtain ⟨ap, hap⟩ : ∃ ap, md.app = ap := ⟨_, rfl⟩
    rw [hap] at e2
    obtain ⟨P, hP⟩ : ∃ P : Nat, (P : Int) = if ap = true then (n : Int) else (q : Int) := by
      by_cases h : ap = true
      · exact ⟨n, by rw [if_pos h]⟩
      · exact ⟨q, by rw [if_neg h]⟩
    have HP := Lib.hid hP
    have Hap := Lib.hid hap
    clear hP hap
    go_upto_if 74 with fail
    go_cut [2] (fun s wx => s = .int .i64 (P : Int) ∧ wx = W4)
    case first =>
      cases ap
      case true =>
        have HP2 := Lib.hid (show (P : Int) = n from HP.out)
        go_wp2_with fail
        go_meet
        exact ⟨by rw [HP2.out], rfl⟩
      case false =>
        have HP2 := Lib.hid (show (P : Int) = q from HP.out)
        go_wp2_with fail
        go_meet
        exact ⟨by rw [HP2.out], rfl⟩
    case rest =>
      obtain ⟨rfl, rfl⟩ := hcut
      clear e2
      have HL4 := Lib.hid HL4.out
      have hal : Below wc.heap.size wc (wc.alloc (.cells #[] 5)) := (Below.refl _ wc).alloc (Nat.le_refl _) _
      have LA := HL4.out.below hal
      obtain ⟨a6, n6, c6, W6, hrun6, hrow6, htw6, -⟩ := run_app bytesElem (wc.alloc (.cells #[] 5)) (fun _ => False) _ (.slice (some ⟨wc.heap.size, 0, none⟩) 0 0) _ [] x (.inl ⟨rfl, _, rfl⟩) (hx.law LA.be) 22 (by have := Hn.out; simp; omega) (by decide)
      have L6 := LA.tw htw6 (fun b hb => hb.1.elim)
      rw [List.nil_append] at hrow6
      obtain ⟨a7, n7, c7, W7, hrun7, hrow7, htw7, -⟩ := run_app bytesElem W6 _ _ (.slice a6 n6 c6) _ x y hrow6 (hy.law L6.be) 22 (by have := Hn.out; omega) (by decide)
      have hlt6 : wc.heap.size < (wc.alloc (.cells #[] 5)).heap.size := by simp
      have hlt7 := htw6.size
      have hno : ∀ b, (False ∨ b = (wc.alloc (.cells #[] 5)).heap.size) → Mine w own4 b := fun b hb => hb.elim (fun e => e.elim) (fun e => ⟨by have := LA.lt; omega, fun e2 => by have := HL4.out.l.lt b e2; omega⟩)
      have L7 := L6.tw htw7 (fun b hb => hno b hb.1)
      have R7 := hrow7.keep (own' := Mine w own4) (fun _ _ _ => rfl) (fun b hb _ => hb.elim (hno b) (fun e => ⟨by have := L6.lt; omega, fun e2 => by have := L6.l.lt b e2; omega⟩))
      have hn7 : n7 = nx + ny := by have := (rd_len R7.rd).1; have := Hn.out; simp at *; omega
      have hn7' : n7 ≤ 600 := by omega
      have Hn7 := Lib.hid hn7
      have Hrun6 := Lib.hid hrun6
      have Hrun7 := Lib.hid hrun7
      have HL7 := Lib.hid L7
      have HR7 := Lib.hid R7
      have c0 := L7.box 0
      have c1 := L7.box 1
      clear hal LA hrun6 hrow6 htw6 L6 hrun7 hrow7 htw7 hlt6 hlt7 hno L7 R7 hn7 HL4
      have hp5 : (P : Int) ≤ 2000 := by have := HP.out; split at this <;> omega
      by_cases r1 : max < (P : Int) + (n7 : Int)
      · go_wp2_with (first | (at_builtin; refine Lib.wpList_append_run _ rfl (.tmp 78) (.tmp 79) 22 22 rfl _ _ rfl rfl (.slice a6 n6 c6) W6 (Eq.trans ?_ Hrun6.out) ?_; focus kernel_rfl) | (at_builtin; refine Lib.wpList_append_run _ rfl (.tmp 80) (.tmp 81) 22 22 rfl _ _ rfl rfl (.slice a7 n7 c7) W7 (Eq.trans ?_ Hrun7.out) ?_; focus kernel_rfl))
        go_ret
        exact ⟨rfl, HL7.out.be⟩
      by_cases r2 : n7 = 0
      · have r2' : ((n7 : Int) == 0) = true := by simp [r2]
        have R2 := Lib.hid r2
        clear r2
        go_wp2_with (first | (at_builtin; refine Lib.wpList_append_run _ rfl (.tmp 78) (.tmp 79) 22 22 rfl _ _ rfl rfl (.slice a6 n6 c6) W6 (Eq.trans ?_ Hrun6.out) ?_; focus kernel_rfl) | (at_builtin; refine Lib.wpList_append_run _ rfl (.tmp 80) (.tmp 81) 22 22 rfl _ _ rfl rfl (.slice a7 n7 c7) W7 (Eq.trans ?_ Hrun7.out) ?_; focus kernel_rfl))
        go_ret
        exact ⟨rfl, HL7.out.be⟩
      have r2' : ((n7 : Int) == 0) = false := by simpa using r2
      have R2 := Lib.hid r2
      clear r2
      go_wp2_with (first | (at_builtin; refine Lib.wpList_append_run _ rfl (.tmp 78) (.tmp 79) 22 22 rfl _ _ rfl rfl (.slice a6 n6 c6) W6 (Eq.trans ?_ Hrun6.out) ?_; focus kernel_rfl) | (at_builtin; refine Lib.wpList_append_run _ rfl (.tmp 80) (.tmp 81) 22 22 rfl _ _ rfl rfl (.slice a7 n7 c7) W7 (Eq.trans ?_ Hrun7.out) ?_; focus kernel_rfl))
      have hnn := Hn.out
      have hn7 := Hn7.out
      have hPi : (P : Int) = if ((St.fresh data max [] md).seekTo (q : Int)).app = true then (((St.fresh data max [] md).seekTo (q : Int)).data.length : Int) else ((St.fresh data max [] md).seekTo (q : Int)).pos := by
        show (P : Int) = if md.app = true then (data.length : Int) else (q : Int)
        rw [Hap.out, hnn.1]
        exact HP.out
      obtain ⟨V, hV, hwv⟩ := wrote_begin (T := (St.fresh data max [] md).seekTo (q : Int)) Hsok.out rfl Hw.out rfl rfl rfl rfl P hPi x (by show (P : Int) + x.length ≤ max; omega) (by omega)
      obtain ⟨V2, hV2, hwv2⟩ := wrote_write hwv y (by show (P : Int) + x.length + y.length ≤ max; omega) (by omega)
      obtain ⟨V3, hV3, hok3, hpl3, hd3, ht3⟩ := wrote_flush hwv2 (by show (P : Int) + ((x ++ y).length : Int) ≤ max; simp; omega)
      change V3.data = putted data P (x ++ y) at hd3
      rw [show ((x ++ y).length : Int) = (n7 : Int) by simp; omega] at ht3
      rw [hnn.2.1] at hV
      rw [hnn.2.2] at hV2
      have HV := Lib.hid hV
      have HV2 := Lib.hid hV2
      have HV3 := Lib.hid hV3
      have Hokv := Lib.hid (And.intro hwv.ok (And.intro hwv2.ok hok3))
      have HS3 := Lib.hid (And.intro hpl3 (And.intro hd3 ht3))
      have Hw7 := Lib.hid (write_calls ⟨m4, HL7.out.l⟩ Hsok.out _ (fun k (hk : k < w.heap.size) e => by have := HL7.out.b1 k e; omega) ax nx cx x (hx.law HL7.out.be))
      clear hnn hn7 hPi hV hwv hV2 hwv2 hV3 hok3 hpl3 hd3 ht3
      go_wp2_with fail
      refine Calls.mono Hw7.out ?_
      rintro e W8 ⟨he, own8, m8, h8, f8⟩
      rw [HV.out] at he h8
      subst he
      have HL8 := Lib.hid (HL7.out.step h8 f8)
      have HR8 := Lib.hid (HR7.out.step f8)
      have Hw8 := Lib.hid (write_calls ⟨m8, h8⟩ Hokv.out.1 _ (fun k (hk : k < w.heap.size) e => by have := HL8.out.b1 k e; omega) ay ny cy y (hy.law HL8.out.be))
      clear h8 f8 HL7 HR7 Hw7 c0 c1
      go_wp2_with fail
      refine Calls.mono Hw8.out ?_
      rintro e W9 ⟨he, own9, m9, h9, f9⟩
      rw [HV2.out] at he h9
      subst he
      have HL9 := Lib.hid (HL8.out.step h9 f9)
      have HR9 := Lib.hid (HR8.out.step f9)
      have Hfl := flush_calls ⟨m9, h9⟩ Hokv.out.2.1
      rw [HV3.out] at Hfl
      have Hfl := Lib.hid Hfl
      clear h9 f9 HL8 HR8 Hw8
      go_wp2_with fail
      refine Calls.mono Hfl.out ?_
      rintro e W10 ⟨rfl, own10, m10, h10, f10⟩
      have HL10 := Lib.hid (HL9.out.step h10 f10)
      have HR10 := Lib.hid (HR9.out.step f10)
      have c0 := HL10.out.box 0
      have hz10 := HL10.out.lt
      clear h10 f10 HL9 HR9 Hfl
      have hal : Below W10.heap.size W10 (W10.alloc (.cells #[] 5)) := (Below.refl _ W10).alloc (Nat.le_refl _) _
      have LA := HL10.out.below hal
      obtain ⟨a11, n11, c11, W11, hrun11, hrow11, htw11, -⟩ := run_app bytesElem (W10.alloc (.cells #[] 5)) (fun _ => False) _ (.slice (some ⟨W10.heap.size, 0, none⟩) 0 0) _ [] data (.inl ⟨rfl, _, rfl⟩) (hd.law LA.be) 22 (by have := Hn.out; simp; omega) (by decide)
      have L11 := LA.tw htw11 (fun b hb => hb.1.elim)
      rw [List.nil_append] at hrow11
      have hW11 : WritesAt w #[.slice a n c, .int .i64 max, .slice none 0 0] bs V3 W10.heap.size data (x ++ y) (.slice a7 n7 c7) 0 (.slice a11 n11 c11) W11 := by
        refine ⟨own10, m10, L11, by have := htw11.size; simp at this; omega, (HR10.out.rd.keep (own' := fun b => Mine w own10 b ∧ b < W10.heap.size) (fun b _ hk => ?_) (fun b hb hk => ⟨hb, hk⟩)), ?_⟩
        · rw [htw11.keep b (by simp; omega) (fun e => e.1.elim)]
          exact hal.block b hk
        · simpa using hrow11.keep (own' := fun b => W10.heap.size ≤ b ∧ ¬ own10 b) (fun _ _ _ => rfl) (fun b hb _ => hb.elim (fun e => e.elim) (fun e => ⟨by simp at e; omega, fun e2 => by have := HL10.out.l.lt b e2; simp at e; omega⟩))
      have Hrun11 := Lib.hid hrun11
      have HW11 := Lib.hid hW11
      clear hal LA hrun11 hrow11 htw11 L11 hW11 HR10
      go_wp2_with (at_builtin; refine Lib.wpList_append_run _ rfl (.tmp 131) (.tmp 133) 22 22 rfl _ _ rfl rfl (.slice a11 n11 c11) W11 (Eq.trans ?_ Hrun11.out) ?_; focus kernel_rfl)
      obtain ⟨Z, hZ⟩ : ∃ Z : Nat, Z = P + n7 - n := ⟨_, rfl⟩
      have HZ := Lib.hid hZ
      clear hZ c0
      go_loopg [19] Z (fun g v wr => ∃ j, j + g = Z ∧ WritesAt w #[.slice a n c, .int .i64 max, .slice none 0 0] bs V3 W10.heap.size data (x ++ y) (.slice a7 n7 c7) j v wr)
      case atStart => exact ⟨0, by omega, HW11.out⟩
      case round =>
        obtain ⟨j, hjg, own, m, hL, hK, hall, hrow⟩ := hrel
        have HL := Lib.hid hL
        have Hall := Lib.hid hall
        have Hjg := Lib.hid hjg
        obtain ⟨av, cv, hv, hcv, hcm⟩ := hrow.shape
        obtain ⟨t, ht⟩ : ∃ t, (data ++ List.replicate j 0).length = t := ⟨_, rfl⟩
        rw [ht] at hv hcv
        subst hv
        have htj : t = n + j := by have := Hn.out.1; simp at ht; omega
        have htb : t ≤ 5000 := by have := HZ.out; omega
        have Hrow := Lib.hid hrow
        have Ht := Lib.hid (And.intro ht htj)
        clear hL hall hjg hrow ht htj HW11
        by_cases hlt : (t : Int) < (P : Int) + n7
        · have hal : Below wr.heap.size wr (wr.alloc (.cells #[.int .u8 0] 5)) := (Below.refl _ wr).alloc (Nat.le_refl _) _
          have LA := HL.out.below hal
          have RA := Hrow.out.below hal
          obtain ⟨a12, n12, c12, W12, hrun, hrow12, htw, -⟩ := run_app bytesElem (wr.alloc (.cells #[.int .u8 0] 5)) _ (fun _ => True) _ (.slice (some ⟨wr.heap.size, 0, none⟩) 1 1) (data ++ List.replicate j 0) [0] RA
            ((show Row 5 byteV (wr.alloc (.cells #[.int .u8 0] 5)) (fun _ => True) (.slice (some ⟨wr.heap.size, 0, none⟩) 1 1) [0] from .inr ⟨_, 1, #[.int .u8 0], rfl, trivial, alloc_at wr _, Nat.le_refl _, by unfold maxLen; omega, rfl, rfl⟩).rd) 22 (by rw [Ht.out.1]; simp; omega) (by decide)
          have hzr := HL.out.lt
          have hnext : WritesAt w #[.slice a n c, .int .i64 max, .slice none 0 0] bs V3 W10.heap.size data (x ++ y) (.slice a7 n7 c7) (j + 1) (.slice a12 n12 c12) W12 := by
            refine ⟨own, m, LA.tw htw (fun b hb => ⟨by have := hb.1.1; omega, hb.1.2⟩), by have := htw.size; simp at this; omega, (Hall.out.keep (own' := fun b => Mine w own b ∧ b < W10.heap.size) (fun b hb hk => ?_) (fun b hb _ => hb)), ?_⟩
            · rw [htw.keep b (by simp; omega) (fun e => by have := hb.2; have := e.1.1; omega)]
              exact hal.block b hk
            · rw [List.replicate_succ', ← List.append_assoc]
              exact hrow12.keep (own' := fun b => W10.heap.size ≤ b ∧ ¬ own b) (fun _ _ _ => rfl) (fun b hb _ => hb.elim id (fun e => ⟨by simp at e; omega, fun e2 => by have := LA.l.lt b e2; omega⟩))
          have Hrun := Lib.hid hrun
          have Hnext := Lib.hid hnext
          clear hal LA RA hrun hrow12 htw hnext
          go_wp2_with (at_builtin; refine Lib.wpList_append_run _ rfl (.tmp 142) (.tmp 143) 22 22 rfl _ _ rfl rfl (.slice a12 n12 c12) W12 (Eq.trans ?_ Hrun.out) ?_; focus kernel_rfl)
          go_roundg (gk - 1)
          case measure => have := HZ.out; have := Hjg.out; have := Ht.out.2; omega
          case rel => exact ⟨j + 1, by have := HZ.out; have := Hjg.out; have := Ht.out.2; omega, Hnext.out⟩
        · have hlr := Ht.out
          have hjz : j = Z := by have := HZ.out; have := Hjg.out; omega
          have hn7z : n7 ≠ 0 := R2.out
          obtain ⟨b, cv', hv2, hcv2, -, hbo⟩ := Hrow.out.block (fun e => by rw [e] at hlr; simp at hlr; omega)
          rw [hlr.1] at hv2
          cases hv2
          have hall7 : (x ++ y).length = n7 := (rd_len Hall.out).1
          have hks := row_from b t cv P (by omega) (by omega)
          obtain ⟨W13, hrun13, hrow13, htw13⟩ := run_copy_wr wr _ _ b cv (data ++ List.replicate j 0) (by rw [hlr.1]; exact Hrow.out) P (t - P) (cv - P) _ (x ++ y) Hall.out 22 (fun e => by rw [e] at hall7; simp at hall7; omega) (by rw [hlr.1]; omega) (by omega)
          rw [hlr.1] at hrow13
          have hfin : (data ++ List.replicate j 0).take P ++ (x ++ y) ++ (data ++ List.replicate j 0).drop (P + (x ++ y).length) = putAt data P (x ++ y) := by
            rw [hjz, HZ.out, ← Hn.out.1]
            exact putAt_eq data P n7 (x ++ y) hall7
          rw [hfin] at hrow13
          have L13 := HL.out.tw htw13 (fun k hk => ⟨by have := hk.1.1; omega, hk.1.2⟩)
          have R13 := hrow13.keep (own' := Mine w own) (fun _ _ _ => rfl) (fun k hk _ => ⟨by have := hk.1; omega, hk.2⟩)
          have Hrun13 := Lib.hid hrun13
          have HL13 := Lib.hid L13
          have HR13 := Lib.hid R13
          obtain ⟨tot, htot⟩ : ∃ tot : Int, (P : Int) + n7 = tot := ⟨_, rfl⟩
          have htb1 : 0 ≤ tot := by omega
          have htb2 : tot ≤ 5000 := by omega
          have Htot := Lib.hid htot
          have Ht13 := tell_calls ⟨m, L13.l⟩ Hokv.out.2.2
          rw [HS3.out.2.2, htot] at Ht13
          clear htot
          have Ht13 := Lib.hid Ht13
          clear hlr hjz hn7z hcv2 hbo hall7 hrun13 hrow13 htw13 hfin L13 R13
          go_wp2_with (refine wpList_copy_run _ rfl (.tmp 147) (.tmp 148) 22 22 rfl _ _ rfl rfl (goInt (x ++ y).length) W13 (Eq.trans ?_ Hrun13.out) ?_; focus kernel_rfl)
          refine Calls.mono Ht13.out ?_
          rintro e W14 ⟨rfl, own14, m14, h14, f14⟩
          have L14 := HL13.out.step h14 f14
          have R14 := HR13.out.step f14
          have L14d : Lw w W14.drew #[.slice a n c, .int .i64 max, .slice none 0 0] own14 bs V3 m14 := L14.drewN 1
          have R14d : Row 5 byteV W14.drew (Mine w own14) (.slice (some ⟨b, 0, none⟩) t cv) (putAt data P (x ++ y)) := R14.keep (fun _ _ _ => rfl) (fun _ h _ => h)
          have Hdv := Lib.hid (device_calls L14d.l Hokv.out.2.2 (by rw [HS3.out.1]; decide))
          have HL14 := Lib.hid L14d
          have HR14 := Lib.hid R14d
          have kW : (convert 22 9 (.slice (some ⟨b, 0, none⟩) t cv)).run Try.prog W14.drew = .ok (.string ⟨(putAt data P (x ++ y)).toArray⟩) W14.drew := conv_str R14d.rd
          have hdat : V3.data = putAt data P (x ++ y) := by
            have h1 := HS3.out.2.1
            have hall7 : (x ++ y).length = n7 := (rd_len Hall.out).1
            have hn7z : n7 ≠ 0 := R2.out
            rw [h1]
            unfold putted
            rw [if_neg (fun e => by rw [e] at hall7; simp at hall7; omega)]
          have Hdat := Lib.hid hdat
          have htot := Htot.out
          have hw7 : IntKind.i64.wrap tot = tot := IntWalk.i64_in _ (by omega)
          have hfd := field_data
          clear h14 f14 L14 R14 L14d R14d hdat HL13 HR13 Ht13
          go_wp2_with fail
          refine wp_region_held_drew (S := fun w' => (convert 22 9 (.slice (some ⟨b, 0, none⟩) t cv)).run Try.prog w' = .ok (.string ⟨(putAt data P (x ++ y)).toArray⟩) w') (by kernel_rfl) kW (fun hHeld => ?_)
          refine wpAnyH_take (i := 0) (v := .bool true) (List.getElem?_toArray.trans rfl) (by kernel_rfl) (by kernel_rfl) (by kernel_rfl) (fun _ _ _ h => h) (Or.inl ⟨by rfl, fun _ hSw => ?hy⟩) (by assumption) ?rest
          case hy => ((try dsimp only at hSw); go_simp)
          case rest =>
            try simp only [Act.put, List.setIfInBounds_toArray, List.set_cons_zero, List.set_cons_succ]
            refine wpAnyH_take (i := 1) (v := .bool true) (List.getElem?_toArray.trans rfl) (by kernel_rfl) (by kernel_rfl) (by kernel_rfl) (fun _ _ _ h => h) (Or.inl ⟨by rfl, fun _ hSw => ?hy⟩) (by assumption) ?rest
            case hy => ((try dsimp only at hSw); go_simp)
            case rest =>
              try simp only [Act.put, List.setIfInBounds_toArray, List.set_cons_zero, List.set_cons_succ]
              refine wpAnyH_take (i := 2) (v := .pointer (some ⟨bs, 0, none⟩)) (List.getElem?_toArray.trans rfl) (by kernel_rfl) (by kernel_rfl) (by kernel_rfl) (fun _ _ _ h => h) (Or.inl ⟨by rfl, fun _ hSw => ?hy⟩) (by assumption) ?rest
              case hy => ((try dsimp only at hSw); go_simp)
              case rest =>
                try simp only [Act.put, List.setIfInBounds_toArray, List.set_cons_zero, List.set_cons_succ]
                refine wpAnyH_take (i := 6) (v := (.slice (some ⟨b, 0, none⟩) t cv)) (List.getElem?_toArray.trans rfl) (by kernel_rfl) (by kernel_rfl) (by kernel_rfl) (fun _ _ _ h => h) (Or.inl ⟨by rfl, fun _ hSw => ?hy⟩) (by assumption) ?rest
                case hy => ((try dsimp only at hSw); go_simp)
                case rest =>
                  try simp only [Act.put, List.setIfInBounds_toArray, List.set_cons_zero, List.set_cons_succ]
                  refine wpAnyH_take (i := 7) (v := .string ⟨(putAt data P (x ++ y)).toArray⟩) (List.getElem?_toArray.trans rfl) (by kernel_rfl) (by kernel_rfl) (by kernel_rfl) (fun _ _ _ h => h) (Or.inl ⟨by rfl, fun _ hSw => ?hy⟩) (by assumption) ?rest
                  case hy => ((try dsimp only at hSw); go_simp)
                  case rest =>
                    try simp only [Act.put, List.setIfInBounds_toArray, List.set_cons_zero, List.set_cons_succ]
                    refine wpAnyH_ready (rs := [3]) (by kernel_rfl) (by simp) (AllReadyH.cons (List.getElem?_toArray.trans rfl) (fun K hK => ?step) AllReadyH.nil)
                    case step =>
                      go_simp
                      refine Calls.mono Hdv.out ?_
                      rintro e W15 ⟨a5, n5, c5, a6, n6, c6, rfl, hD, -, hb15⟩
                      rw [Hdat.out] at hD
                      have kD : (convert 22 9 (.slice a5 n5 c5)).run Try.prog W15 = .ok (.string ⟨(putAt data P (x ++ y)).toArray⟩) W15 := conv_str hD.rd
                      have kW2 : (convert 22 9 (.slice (some ⟨b, 0, none⟩) t cv)).run Try.prog W15 = .ok (.string ⟨(putAt data P (x ++ y)).toArray⟩) W15 := conv_str (HR14.out.below hb15).rd
                      have Hfin := Lib.hid (HL14.out.below hb15).be
                      clear hD hb15
                      dsimp only
                      refine hK.out _ _ (by first | exact kW | exact kW2) (fun hHeld => ?_)
                      clear hK K
                      try simp only [Act.put, List.setIfInBounds_toArray, List.set_cons_zero, List.set_cons_succ]
                      refine wpAnyH_take (i := 4) (v := .slice a5 n5 c5) (List.getElem?_toArray.trans rfl) (by kernel_rfl) (by kernel_rfl) (by kernel_rfl) (fun _ _ _ h => h) (Or.inl ⟨by rfl, fun _ hSw => ?hy⟩) (by assumption) ?rest
                      case hy => ((try dsimp only at hSw); go_simp)
                      case rest =>
                        try simp only [Act.put, List.setIfInBounds_toArray, List.set_cons_zero, List.set_cons_succ]
                        refine wpAnyH_ready (rs := [5]) (by kernel_rfl) (by simp) (AllReadyH.cons (List.getElem?_toArray.trans rfl) (fun K hK => ?step) AllReadyH.nil)
                        case step =>
                          go_simp
                          refine hK.out _ _ (by first | exact kW | exact kW2) (fun hHeld => ?_)
                          clear hK K
                          try simp only [Act.put, List.setIfInBounds_toArray, List.set_cons_zero, List.set_cons_succ]
                          refine wpAnyH_take (i := 8) (v := .bool true) (List.getElem?_toArray.trans rfl) (by kernel_rfl) (by kernel_rfl) (by kernel_rfl) (fun _ _ _ h => h) (Or.inl ⟨by rfl, fun _ hSw => ?hy⟩) (by assumption) ?rest
                          case hy => ((try dsimp only at hSw); go_simp)
                          case rest =>
                            try simp only [Act.put, List.setIfInBounds_toArray, List.set_cons_zero, List.set_cons_succ]
                            refine wpAnyH_take (i := 9) (v := .bool true) (List.getElem?_toArray.trans rfl) (by kernel_rfl) (by kernel_rfl) (by kernel_rfl) (fun _ _ _ h => h) (Or.inl ⟨by rfl, fun _ hSw => ?hy⟩) (by assumption) ?rest
                            case hy => ((try dsimp only at hSw); go_simp)
                            case rest =>
                              try simp only [Act.put, List.setIfInBounds_toArray, List.set_cons_zero, List.set_cons_succ]
                              refine wpAnyH_take (i := 10) (v := .bool true) (List.getElem?_toArray.trans rfl) (by kernel_rfl) (by kernel_rfl) (by kernel_rfl) (fun _ _ _ h => h) (Or.inl ⟨by rfl, fun _ hSw => ?hy⟩) (by assumption) ?rest
                              case hy => ((try dsimp only at hSw); go_simp)
                              case rest =>
                                try simp only [Act.put, List.setIfInBounds_toArray, List.set_cons_zero, List.set_cons_succ]
                                refine wpAnyH_take (i := 11) (v := .int .i64 0) (List.getElem?_toArray.trans rfl) (by kernel_rfl) (by kernel_rfl) (by kernel_rfl) (fun _ _ _ h => h) (Or.inl ⟨by rfl, fun _ hSw => ?hy⟩) (by assumption) ?rest
                                case hy => ((try dsimp only at hSw); go_simp)
                                case rest =>
                                  try simp only [Act.put, List.setIfInBounds_toArray, List.set_cons_zero, List.set_cons_succ]
                                  refine wpAnyH_take (i := 12) (v := .bool true) (List.getElem?_toArray.trans rfl) (by kernel_rfl) (by kernel_rfl) (by kernel_rfl) (fun _ _ _ h => h) (Or.inl ⟨by rfl, fun _ hSw => ?hy⟩) (by assumption) ?rest
                                  case hy => ((try dsimp only at hSw); go_simp)
                                  case rest =>
                                    try simp only [Act.put, List.setIfInBounds_toArray, List.set_cons_zero, List.set_cons_succ]
                                    refine wpAnyH_take (i := 13) (v := .bool true) (List.getElem?_toArray.trans rfl) (by kernel_rfl) (by kernel_rfl) (by kernel_rfl) (fun _ _ _ h => h) (Or.inl ⟨by rfl, fun _ hSw => ?hy⟩) (by assumption) ?rest
                                    case hy => ((try dsimp only at hSw); go_simp)
                                    case rest =>
                                      try simp only [Act.put, List.setIfInBounds_toArray, List.set_cons_zero, List.set_cons_succ]
                                      refine wpAnyH_take (i := 14) (v := .bool true) (List.getElem?_toArray.trans rfl) (by kernel_rfl) (by kernel_rfl) (by kernel_rfl) (fun _ _ _ h => h) (Or.inl ⟨by rfl, fun _ hSw => ?hy⟩) (by assumption) ?rest
                                      case hy => ((try dsimp only at hSw); go_simp)
                                      case rest =>
                                        try simp only [Act.put, List.setIfInBounds_toArray, List.set_cons_zero, List.set_cons_succ]
                                        refine wpAnyH_take (i := 15) (v := .int .i64 tot) (List.getElem?_toArray.trans rfl) (by kernel_rfl) (by kernel_rfl) (by kernel_rfl) (fun _ _ _ h => h) (Or.inl ⟨by rfl, fun _ hSw => ?hy⟩) (by assumption) ?rest
                                        case hy => ((try dsimp only at hSw); go_simp)
                                        case rest =>
                                          try simp only [Act.put, List.setIfInBounds_toArray, List.set_cons_zero, List.set_cons_succ]
                                          refine wpAnyH_take (i := 16) (v := .int .i64 (P : Int)) (List.getElem?_toArray.trans rfl) (by kernel_rfl) (by kernel_rfl) (by kernel_rfl) (fun _ _ _ h => h) (Or.inl ⟨by rfl, fun _ hSw => ?hy⟩) (by assumption) ?rest
                                          case hy => ((try dsimp only at hSw); go_simp)
                                          case rest =>
                                            try simp only [Act.put, List.setIfInBounds_toArray, List.set_cons_zero, List.set_cons_succ]
                                            refine wpAnyH_take (i := 17) (v := .slice a7 n7 c7) (List.getElem?_toArray.trans rfl) (by kernel_rfl) (by kernel_rfl) (by kernel_rfl) (fun _ _ _ h => h) (Or.inl ⟨by rfl, fun _ hSw => ?hy⟩) (by assumption) ?rest
                                            case hy => ((try dsimp only at hSw); go_simp)
                                            case rest =>
                                              try simp only [Act.put, List.setIfInBounds_toArray, List.set_cons_zero, List.set_cons_succ]
                                              refine wpAnyH_take (i := 18) (v := .int .i64 (n7 : Int)) (List.getElem?_toArray.trans rfl) (by kernel_rfl) (by kernel_rfl) (by kernel_rfl) (fun _ _ _ h => h) (Or.inl ⟨by rfl, fun _ hSw => ?hy⟩) (by assumption) ?rest
                                              case hy => ((try dsimp only at hSw); go_simp)
                                              case rest =>
                                                try simp only [Act.put, List.setIfInBounds_toArray, List.set_cons_zero, List.set_cons_succ]
                                                refine wpAnyH_take (i := 19) (v := .int .i64 tot) (List.getElem?_toArray.trans rfl) (by kernel_rfl) (by kernel_rfl) (by kernel_rfl) (fun _ _ _ h => h) (Or.inl ⟨by rfl, fun _ hSw => ?hy⟩) (by assumption) ?rest
                                                case hy => ((try dsimp only at hSw); go_simp)
                                                case rest =>
                                                  try simp only [Act.put, List.setIfInBounds_toArray, List.set_cons_zero, List.set_cons_succ]
                                                  refine wpAnyH_take (i := 20) (v := .bool true) (List.getElem?_toArray.trans rfl) (by kernel_rfl) (by kernel_rfl) (by kernel_rfl) (fun _ _ _ h => h) (Or.inl ⟨by rfl, fun _ hSw => ?hy⟩) (by assumption) ?rest
                                                  case hy => ((try dsimp only at hSw); go_simp)
                                                  case rest =>
                                                    try simp only [Act.put, List.setIfInBounds_toArray, List.set_cons_zero, List.set_cons_succ]
                                                    refine wpAnyH_take (i := 21) (v := .bool true) (List.getElem?_toArray.trans rfl) (by kernel_rfl) (by kernel_rfl) (by kernel_rfl) (fun _ _ _ h => h) (Or.inl ⟨by rfl, fun _ hSw => ?hy⟩) (by assumption) ?rest
                                                    case hy => ((try dsimp only at hSw); go_simp)
                                                    case rest =>
                                                      try simp only [Act.put, List.setIfInBounds_toArray, List.set_cons_zero, List.set_cons_succ]
                                                      refine wpAnyH_take (i := 22) (v := .bool true) (List.getElem?_toArray.trans rfl) (by kernel_rfl) (by kernel_rfl) (by kernel_rfl) (fun _ _ _ h => h) (Or.inl ⟨by rfl, fun _ hSw => ?hy⟩) (by assumption) ?rest
                                                      case hy => ((try dsimp only at hSw); go_simp)
                                                      case rest =>
                                                        try simp only [Act.put, List.setIfInBounds_toArray, List.set_cons_zero, List.set_cons_succ]
                                                        refine wpAnyH_done (by kernel_rfl) ?_ _
                                                        go_wp2_with fail
                                                        go_ret
                                                        exact ⟨rfl, Hfin.out⟩
end Go.Proofs.Ytgihclflndlomaa
