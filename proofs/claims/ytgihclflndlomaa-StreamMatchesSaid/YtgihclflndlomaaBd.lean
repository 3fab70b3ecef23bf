/- StreamReads: the walk. -/
import Derived.Test.YtgihclflndlomaaBc
import Derived.Deep.LoopGhost
import Derived.Outline
import Derived.Laws.Concat
import Derived.Deep.QuietTactic
import Derived.BigQuiet
namespace Go.Proofs.Ytgihclflndlomaa
open Go.RowKit

theorem below_drewN {B : Nat} {w W : World} (h : Below B w W) (n : Nat) : Below B w (W.drewN n) := ⟨h.os, h.tape, h.output, h.size, h.block⟩
theorem bytes_append (l r : List UInt8) : ((⟨l.toArray⟩ : ByteArray) ++ ⟨r.toArray⟩) = ⟨(l ++ r).toArray⟩ := by
  apply ByteArray.ext
  simp [ByteArray.data_append]
theorem run_str_add (l r : List UInt8) (h : l.length + r.length ≤ 9223372036854775807) (W : World) : (Op.stringOp .add ⟨l.toArray⟩ ⟨r.toArray⟩).run Try.prog W = .ok (.string ⟨(l ++ r).toArray⟩) W := by
  rw [run_string_add_sum W _ _ (by simpa [ByteArray.size] using h), bytes_append]

theorem eof_quiet {w : World} {own : Nat → Prop} {bs : Nat} {S : St} {m : Mem} {b : Bool} (h : SAtM w own bs S m) (hb : S.endm = b) :
    Calls Try.prog 14 #[.pointer (some ⟨bs, 0, none⟩)] w fun e w' => e = .returned (.bool b) ∧ w' = w := (eof_calls h).mono fun _ _ ⟨h1, h2⟩ => ⟨hb ▸ h1, h2.symm⟩

theorem fresh_ok {data : List UInt8} {max : Int} {plan : List Int} {md : Md} (h : ¬ openRefused data max plan md) : (St.fresh data max plan md).Ok := by
  unfold openRefused devBad Md.bad at h
  constructor <;> simp only [St.fresh, List.length_nil] <;> omega

/-- Between the rounds in which bytes are put back. -/
def ReadsAt (w : World) (dv : Array Value) (bs p : Nat) (data back : List UInt8) (k : Nat) (v i : Value) (W : World) : Prop :=
  ∃ own m S, i = .int .i64 (k : Int) ∧ Lw w W dv own bs S m ∧ S.Still ∧ S.endm = false ∧ S.rest = (back.take k).reverse ++ data.drop p ∧ S.back.length = k ∧ Row 5 byteV W (Mine w own) v (back.take k).reverse

abbrev lawW (w : World) (a a2 : Option Addr) (n c n2 c2 : Nat) (max : Int) : World := w.alloc (.cells #[.slice a n c, .int .i64 max, .slice a2 n2 c2] 25)

set_option maxRecDepth 100000 in
set_option maxHeartbeats 4000000 in
theorem reads_calls (w : World) (a a2 : Option Addr) (n c n2 c2 : Nat) (max size first : Int) (ab : Option Addr) (nb cb : Nat) (data back : List UInt8)
    (hd : Rd w (fun b => b < w.heap.size) byteV (.slice a n c) data) (hb : Rd w (fun b => b < w.heap.size) byteV (.slice ab nb cb) back) :
    Calls Try.prog 3 #[.agg #[.slice a n c, .int .i64 max, .slice a2 n2 c2], .int .i64 size, .int .i64 first, .slice ab nb cb] w fun e w' => e = .returned (.bool true) ∧ Below w.heap.size w w' := by
  go_enter Try.func3, Try.ntmps3
  go_wp2_with fail
  refine (sane_calls _).mono ?_
  rintro e W1 ⟨rfl, hb1⟩
  have hz1 : w.heap.size < W1.heap.size := by have := hb1.size; simp at this; omega
  have hx1 : W1.heap[w.heap.size]? = some (.cells #[.slice a n c, .int .i64 max, .slice a2 n2 c2] 25 (0, 0)) := (hb1.block _ (by simp)).trans (alloc_at w _)
  have hx2 : (W1.setCell ⟨w.heap.size, 2, none⟩ (.slice none 0 0)).heap[w.heap.size]? = some (.cells #[.slice a n c, .int .i64 max, .slice none 0 0] 25 (0, 0)) := heap_setCell_same W1 w.heap.size 2 _ _ _ hx1
  have hbe : Below w.heap.size w (W1.setCell ⟨w.heap.size, 2, none⟩ (.slice none 0 0)) := (((Below.refl _ w).alloc (Nat.le_refl _) _).trans (hb1.mono (by simp))).setCell (by simp) _
  have c0 : W1.cell? ⟨w.heap.size, 0, none⟩ = some (.slice a n c) := cell_of_row _ _ 0 _ _ _ hx1
  have c1 : W1.cell? ⟨w.heap.size, 1, none⟩ = some (.int .i64 max) := cell_of_row _ _ 1 _ _ _ hx1
  have c2' : W1.cell? ⟨w.heap.size, 2, none⟩ = some (.slice a2 n2 c2) := cell_of_row _ _ 2 _ _ _ hx1
  have f2 : W1.frozen? ⟨w.heap.size, 2, none⟩ = false := frozen_of_row _ _ 2 _ _ hx1
  have Hx2 := Lib.hid hx2
  have Hbe := Lib.hid hbe
  clear hb1 hx1 hx2 hbe
  go_wp2_with fail
  obtain ⟨W2, hW2⟩ : ∃ W2, W1.setCell ⟨w.heap.size, 2, none⟩ (.slice none 0 0) = W2 := ⟨_, rfl⟩
  have hx2 := Hx2.out
  have hbe := Hbe.out
  rw [hW2] at hx2 hbe ⊢
  clear Hx2 Hbe hW2 c0 c1 c2' f2 hz1
  have hd2 := hd.law hbe
  refine (open_calls W2 _ a none n c 0 0 max data [] ⟨true, false, false, size, false⟩ hd2 (Rd.nil _ _ _) (by decide)).mono ?_
  rintro e W3 (⟨hr, rfl, hb3⟩ | ⟨hr, bs, own, rfl, ⟨m, hs⟩, hown, hb3⟩)
  · clear hr
    have Hfin := Lib.hid (hbe.trans (hb3.mono hbe.size))
    clear hbe hb3 hd2 hx2
    go_wp2_with fail
    go_ret
    exact ⟨rfl, Hfin.out⟩
  · have hL : Lw w W3 #[.slice a n c, .int .i64 max, .slice none 0 0] own bs (St.fresh data max [] ⟨true, false, false, size, false⟩) m := ⟨hs, fun k hk => Nat.lt_of_lt_of_le (Array.getElem?_eq_some_iff.1 hx2).1 (hown k hk), hbe.trans (hb3.mono hbe.size), (hb3.block _ (Array.getElem?_eq_some_iff.1 hx2).1).trans hx2⟩
    have c0 := hL.box 0
    have hn := rd_len hd
    have hn2 := rd_len hb
    have HL := Lib.hid hL
    have Hr := Lib.hid hr
    clear hs hown hb3 hbe hx2 hd2 hL hr
    by_cases hg1 : 2000 < (n : Int)
    · go_wp2_with fail
      go_ret
      exact ⟨rfl, HL.out.be⟩
    by_cases hg2 : first < 0
    · go_wp2_with fail
      go_ret
      exact ⟨rfl, HL.out.be⟩
    by_cases hg3 : (n : Int) < first
    · go_wp2_with fail
      go_ret
      exact ⟨rfl, HL.out.be⟩
    by_cases hg4 : 16 < (nb : Int)
    · go_wp2_with fail
      go_ret
      exact ⟨rfl, HL.out.be⟩
    obtain ⟨p, rfl⟩ : ∃ p : Nat, first = p := ⟨first.toNat, by omega⟩
    have hok : (St.fresh data max [] ⟨true, false, false, size, false⟩).Ok := fresh_ok Hr.out
    have hst : (St.fresh data max [] ⟨true, false, false, size, false⟩).Still := ⟨hok, rfl, rfl, rfl, rfl⟩
    have hrest : (St.fresh data max [] ⟨true, false, false, size, false⟩).rest = data := rfl
    obtain ⟨S1, hr1, hcore1, hst1, hen1, hrest1, hbk1⟩ := readN_still p _ hst rfl (by rw [hrest]; omega)
    rw [hrest] at hr1 hrest1
    have hrd : (St.fresh data max [] ⟨true, false, false, size, false⟩).read (p : Int) = (data.take p, 0, S1) := by rw [read_still _ hst _ (by omega) (by omega)]; exact hr1
    have Hrd := Lib.hid hrd
    have Hst1 := Lib.hid (show S1.Still ∧ S1.endm = false ∧ S1.rest = data.drop p ∧ S1.back.length = 0 from ⟨hst1, hen1, hrest1, Nat.le_zero.1 hbk1⟩)
    have Hrc := Lib.hid (read_calls ⟨m, HL.out.l⟩ hok (p : Int))
    clear hrd hr1 hcore1 hst1 hen1 hrest1 hbk1 hok hst hrest
    go_wp2_with fail
    refine Hrc.out.mono ?_
    rintro e W4 ⟨ar, nr, cr, own4, m4, rfl, h4, f4, hrow⟩
    rw [Hrd.out] at h4 hrow ⊢
    have L4 := HL.out.step h4 f4
    have c04 := L4.box 0
    have hda := hd.law L4.be
    have hkA : ∀ q, (convert 22 9 (.slice ar nr cr)).run Try.prog (W4.drewN q) = .ok (.string ⟨(data.take p).toArray⟩) (W4.drewN q) := fun q => conv_str (hrow.rd.keep (fun _ _ _ => rfl) (fun _ h _ => h))
    have hkS := run_to a n c p (by omega)
    have hkB : ∀ q, (convert 22 9 (.slice a p c)).run Try.prog (W4.drewN q) = .ok (.string ⟨(data.take p).toArray⟩) (W4.drewN q) := fun q => conv_str ((hda.take p (by omega)).keep (fun _ _ _ => rfl) (fun _ h _ => h))
    have HL4 := Lib.hid L4
    clear h4 f4 hrow L4 hda Hrc HL Hr
    go_wp2_with fail
    go_quiet (fail)
    go_wp2_with fail
    have HW := Lib.hid (show ReadsAt w #[.slice a n c, .int .i64 max, .slice none 0 0] bs p data back 0 (.slice none 0 0) (.int .i64 0) (W4.drewN nq) from
      ⟨own4, m4, S1, rfl, HL4.out.drewN nq, Hst1.out.1, Hst1.out.2.1, by simpa using Hst1.out.2.2.1, Hst1.out.2.2.2, .inl ⟨rfl, none, rfl⟩⟩)
    have Hb := Lib.hid hb
    have Hd := Lib.hid hd
    clear HL4 Hst1 Hrd hb hd c0 c04 hkA hkB
    go_loopg [14, 15] nb (fun g v i wr => ∃ k, k + g = nb ∧ ReadsAt w #[.slice a n c, .int .i64 max, .slice none 0 0] bs p data back k v i wr)
    case atStart => exact ⟨0, by omega, HW.out⟩
    case round =>
      obtain ⟨k, hkg, own, m, S, rfl, hL, hst, hen, hrest, hbk, hrow⟩ := hrel
      clear HW
      obtain ⟨av, cv, hv, hcv, hcm⟩ := hrow.shape
      rw [show (back.take k).reverse.length = k by simp; omega] at hv hcv
      subst hv
      have HL := Lib.hid hL
      have Hst := Lib.hid (show S.Still ∧ S.endm = false ∧ S.rest = (back.take k).reverse ++ data.drop p ∧ S.back.length = k from ⟨hst, hen, hrest, hbk⟩)
      have Hrow := Lib.hid hrow
      have Hkg := Lib.hid hkg
      have hk16 : k ≤ nb := by omega
      clear hL hst hen hrest hbk hrow hkg
      by_cases hlt : k < nb
      · obtain ⟨a', c', hv, hlc, hcm', hnn, hcell⟩ := Hb.out.law HL.out.be
        cases hv
        obtain ⟨bb, ob, rfl, hbb, hcell⟩ := hcell (fun e => by rw [e] at hlt; simp at hlt)
        have hx : back[k]? = some back[k] := List.getElem?_eq_getElem hlt
        have cb0 : wr.cell? ⟨bb, ob + k, none⟩ = some (.int .u8 (back[k].toNat : Int)) := hcell k _ hx
        obtain ⟨x, hxe⟩ : ∃ x, back[k] = x := ⟨_, rfl⟩
        rw [hxe] at cb0 hx
        have hun := ungetc_still S Hst.out.1 x (by rw [Hst.out.2.2.2]; omega)
        have Hun := Lib.hid hun
        have Hc := Lib.hid (ungetc_calls ⟨m, HL.out.l⟩ Hst.out.1.ok x)
        have hok2 := ungetc_ok S Hst.out.1.ok x
        rw [hun] at hok2
        have Hok2 := Lib.hid hok2
        have Hx := Lib.hid hx
        clear hx hxe hun hok2 hcell hcm' hnn hlc hn2
        go_wp2_with fail
        refine Calls.mono Hc.out ?_
        rintro e W5 ⟨rfl, own5, m5, h5, f5⟩
        rw [Hun.out] at h5 ⊢
        have L5 := HL.out.step h5 f5
        have R5 := Hrow.out.step f5
        have cb1 : W5.cell? ⟨bb, ob + k, none⟩ = some (.int .u8 (x.toNat : Int)) := (L5.be.cell (p := ⟨bb, ob + k, none⟩) hbb).trans ((HL.out.be.cell (p := ⟨bb, ob + k, none⟩) hbb).symm.trans cb0)
        have hal : Below W5.heap.size W5 (W5.alloc (.cells #[byteV x] 5)) := (Below.refl _ W5).alloc (Nat.le_refl _) _
        obtain ⟨a6, n6, c6, W6, hrun, hrow6, htw, -⟩ := run_app bytesElem (W5.alloc (.cells #[byteV x] 5)) (fun b => b = W5.heap.size) (fun _ => True) (.slice (some ⟨W5.heap.size, 0, none⟩) 1 1) (.slice av k cv) [x] _
          (.inr ⟨_, 1, #[byteV x], rfl, rfl, alloc_at W5 _, Nat.le_refl _, by unfold maxLen; omega, rfl, rfl⟩) ((R5.below hal).rd.keep (fun _ _ _ => rfl) (fun _ _ _ => trivial)) 22 (by simp; omega) (by decide)
        have Hrun := Lib.hid hrun
        have hsz5 : w.heap.size < W5.heap.size := L5.lt
        have hno : ∀ b, b = W5.heap.size ∨ b = (W5.alloc (.cells #[byteV x] 5)).heap.size → Mine w own5 b := fun b hb => ⟨by simp at hb; omega, fun e => by have := L5.l.lt b e; simp at hb; omega⟩
        have L7 := (L5.below hal).tw htw (fun b hb => hno b (.inl hb.1))
        have R7 := hrow6.keep (own' := Mine w own5) (fun _ _ _ => rfl) (fun b hb _ => hno b hb)
        have Hgo : Hid (ReadsAt w #[.slice a n c, .int .i64 max, .slice none 0 0] bs p data back (k + 1) (.slice a6 n6 c6) (.int .i64 ((k + 1 : Nat) : Int)) W6) := Lib.hid (by
          refine ⟨own5, m5, _, rfl, L7, ⟨Hok2.out, Hst.out.1.op, Hst.out.1.rd, Hst.out.1.wt, Hst.out.1.pl⟩, rfl, ?_, ?_, ?_⟩
          · show (S.back ++ [x]).reverse ++ (S.ahead ++ S.data.drop S.pos.toNat) = (back.take (k + 1)).reverse ++ data.drop p
            rw [List.take_add_one, Hx.out]
            have := Hst.out.2.2.1
            unfold St.rest at this
            simp [this]
          · show (S.back ++ [x]).length = k + 1
            simp [Hst.out.2.2.2]
          · rw [List.take_add_one, Hx.out]
            simpa using R7)
        clear h5 f5 L5 R5 hal hrun hrow6 htw hsz5 hno L7 R7 Hc Hst Hok2 Hun Hx HL Hrow cb0
        have hbv : byteV x = .int .u8 (x.toNat : Int) := rfl
        go_wp2_with (at_builtin; refine Lib.wpList_append_run _ rfl (.tmp 89) (.tmp 90) 22 22 rfl _ _ rfl rfl (.slice a6 n6 c6) W6 (Eq.trans ?_ Hrun.out) ?_; focus kernel_rfl)
        go_roundg (gk - 1)
        case measure => have := Hkg.out; omega
        case rel => exact ⟨k + 1, by have := Hkg.out; omega, by rw [show ((k : Int) + 1) = ((k + 1 : Nat) : Int) by omega]; exact Hgo.out⟩
      · have hke : k = nb := by omega
        have hbt : back.take k = back := List.take_of_length_le (by omega)
        have hS := Hst.out
        rw [hbt] at hS
        have hroww := Hrow.out
        rw [hbt] at hroww
        have hrl : S.rest.length = nb + (n - p) := by rw [hS.2.2.1]; simp; omega
        obtain ⟨T, hT1, hT2, hT3, hT4, hT5, hT6⟩ := readN_over (n + nb + 1) S hS.1 hS.2.1 (by omega)
        obtain ⟨U, hU, hU4⟩ := read_done T hT3 hT4 hT5 hT6
        have hrd : S.read ((n : Int) + nb + 1) = (back.reverse ++ data.drop p, 11, T) := by rw [read_still S hS.1 _ (by omega) (by omega), show ((n : Int) + nb + 1).toNat = n + nb + 1 by omega, hT1, hS.2.2.1]
        have Hrd := Lib.hid hrd
        have Hrc := Lib.hid (read_calls ⟨m, HL.out.l⟩ hS.1.ok ((n : Int) + nb + 1))
        have HT := Lib.hid (show T.Ok ∧ T.read 1 = ([], 11, U) ∧ U.endm = true from ⟨hT3.ok, hU, hU4⟩)
        have Hroww := Lib.hid hroww
        have c0 := HL.out.box 0
        have hke' : (nb : Int) ≤ k := by omega
        have Hke := Lib.hid hke
        clear hbt hS hroww hrl hT1 hT2 hT3 hT4 hT5 hT6 hU hU4 hrd hke Hrow Hst
        go_wp2_with fail
        refine Hrc.out.mono ?_
        rintro e W5 ⟨a5, n5, c5, own5, m5, rfl, h5, f5, hrow5⟩
        rw [Hrd.out] at h5 hrow5 ⊢
        have L5 := HL.out.step h5 f5
        have R5 := hrow5.mine HL.out.lt
        have RT := Hroww.out.step f5
        have HL5 := Lib.hid L5
        have HR5 := Lib.hid R5
        have HRT := Lib.hid RT
        have Hrc2 := Lib.hid (read_calls ⟨m5, L5.l⟩ HT.out.1 1)
        clear h5 f5 hrow5 L5 R5 RT HL Hroww Hrc c0
        go_wp2_with fail
        refine Hrc2.out.mono ?_
        rintro e W6 ⟨a6, n6, c6, own6, m6, rfl, h6, f6, hrow6⟩
        rw [HT.out.2.1] at h6 hrow6 ⊢
        have L6 := HL5.out.step h6 f6
        have R6 := HR5.out.step f6
        have RT6 := HRT.out.step f6
        have c0 := L6.box 0
        have hn6 : n6 = 0 := by have := (rd_len hrow6.rd).1; simpa using this.symm
        subst hn6
        obtain ⟨ad, hkS, hrd⟩ := rd_from (Hd.out.law L6.be) p (by omega)
        have hkA : ∀ q, (convert 22 9 (.slice a5 n5 c5)).run Try.prog (W6.drewN q) = .ok (.string ⟨(back.reverse ++ data.drop p).toArray⟩) (W6.drewN q) := fun q => conv_str (R6.rd.keep (fun _ _ _ => rfl) (fun _ h _ => h))
        have hkB : ∀ q, (convert 22 9 (.slice av k cv)).run Try.prog (W6.drewN q) = .ok (.string ⟨back.reverse.toArray⟩) (W6.drewN q) := fun q => conv_str (RT6.rd.keep (fun _ _ _ => rfl) (fun _ h _ => h))
        have hkC : ∀ q, (convert 22 9 (.slice ad (n - p) (c - p))).run Try.prog (W6.drewN q) = .ok (.string ⟨(data.drop p).toArray⟩) (W6.drewN q) := fun q => conv_str (hrd.keep (fun _ _ _ => rfl) (fun _ h _ => h))
        have hadd := run_str_add back.reverse (data.drop p) (by simp; omega)
        have Hfin := Lib.hid L6.be
        have Heof := Lib.hid (fun q => eof_quiet (L6.l.drewN q) HT.out.2.2)
        clear h6 f6 hrow6 L6 R6 RT6 HL5 HR5 HRT hrd Hrc2
        go_wp2_with fail
        go_quiet ((go_at_call 14; exact Calls.quiet_of_same (Heof.out _)))
        go_wp2_with fail
        go_ret
        exact ⟨rfl, below_drewN Hfin.out _⟩
end Go.Proofs.Ytgihclflndlomaa
